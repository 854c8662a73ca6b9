/- Layer 18 (journals), in plain words: checks, records laid one behind the other, and what is told of bytes; Layer 18 (journals): a check goes on over bytes -/
import Derived.Test.YtjfejpdeccnlnaaDoorCommon
import Derived.Test.YtjfejpdeccnlnaaDoorOrder0
import Derived.Laws.BitsAllLaws
namespace Go.Proofs.YtjfejpdeccnlnaaDoor

/-- One bit of a check. -/
def stepC (c : Nat) : Nat := if c / 2147483648 = 1 then (c * 2 % 4294967296) ^^^ 79764919 else c * 2 % 4294967296
def stepsC : Nat → Nat → Nat
  | 0, c => c
  | k + 1, c => stepsC k (stepC c)
/-- A byte more. -/
def byteC (c x : Nat) : Nat := stepsC 8 (c ^^^ (x * 16777216))
def crc (c : Nat) (l : List Nat) : Nat := l.foldl byteC c
abbrev firstC : Nat := 4294967295
def num4 (n : Nat) : List Nat := [n / 16777216 % 256, n / 65536 % 256, n / 256 % 256, n % 256]
def val4 : List Nat → Nat
  | a :: b :: c :: d :: _ => a * 16777216 + b * 65536 + c * 256 + d
  | _ => 0
/-- A record's bytes ahead of its check. -/
def headR (r : List Nat) : List Nat := num4 r.length ++ r
/-- Its check, behind c. -/
def nextC (c : Nat) (r : List Nat) : Nat := crc c (headR r)
def laidR (c : Nat) (r : List Nat) : List Nat := headR r ++ num4 (nextC c r)
/-- Records one behind the other. -/
def laidAll : Nat → List (List Nat) → List Nat
  | _, [] => []
  | c, r :: R => laidR c r ++ laidAll (nextC c r) R
def lastC : Nat → List (List Nat) → Nat
  | c, [] => c
  | c, r :: R => lastC (nextC c r) R
/-- What is told of bytes, behind a check: each record with its check. -/
def recsF : Nat → Nat → List Nat → List (List Nat × Nat)
  | 0, _, _ => []
  | f + 1, c, b => if b.length < 8 then [] else
      if val4 b > 65536 ∨ val4 b > b.length - 8 then [] else
        if num4 (crc c (b.take (4 + val4 b))) = (b.drop (4 + val4 b)).take 4 then
          ((b.drop 4).take (val4 b), crc c (b.take (4 + val4 b))) :: recsF f (crc c (b.take (4 + val4 b))) (b.drop (4 + val4 b + 4))
        else []
def recs (c : Nat) (b : List Nat) : List (List Nat × Nat) := recsF (b.length + 1) c b
theorem recsF_more : ∀ (f g c : Nat) (b : List Nat), b.length < f → b.length < g → recsF f c b = recsF g c b
  | 0, _, _, _, h, _ => absurd h (Nat.not_lt_zero _)
  | _, 0, _, _, _, h => absurd h (Nat.not_lt_zero _)
  | f + 1, g + 1, c, b, h, h' => by
    unfold recsF
    split
    · rfl
    · split
      · rfl
      · split
        · rw [recsF_more f g _ _ (by simp; omega) (by simp; omega)]
        · rfl
theorem recs_eq (c : Nat) (b : List Nat) : recs c b = if b.length < 8 then [] else
      if val4 b > 65536 ∨ val4 b > b.length - 8 then [] else
        if num4 (crc c (b.take (4 + val4 b))) = (b.drop (4 + val4 b)).take 4 then
          ((b.drop 4).take (val4 b), crc c (b.take (4 + val4 b))) :: recs (crc c (b.take (4 + val4 b))) (b.drop (4 + val4 b + 4))
        else [] := by
  unfold recs
  rw [recsF]
  split
  · rfl
  · split
    · rfl
    · split
      · rw [recsF_more b.length ((b.drop (4 + val4 b + 4)).length + 1) _ _ (by simp; omega) (by omega)]
      · rfl
/-! ### Numbers in four bytes -/
theorem num4_length (n : Nat) : (num4 n).length = 4 := rfl
theorem val4_num4 (n : Nat) (h : n < 4294967296) (t : List Nat) : val4 (num4 n ++ t) = n := by
  simp only [num4, List.cons_append, val4]
  omega
theorem num4_inj {m n : Nat} (hm : m < 4294967296) (hn : n < 4294967296) (h : num4 m = num4 n) : m = n := by
  have h1 := val4_num4 m hm []
  rw [h, val4_num4 n hn []] at h1
  exact h1.symm
theorem num4_bytes (n : Nat) : ∀ x ∈ num4 n, x < 256 := by
  intro x hx
  simp only [num4, List.mem_cons, List.not_mem_nil, or_false] at hx
  rcases hx with rfl | rfl | rfl | rfl <;> exact Nat.mod_lt _ (by omega)
/-! ### Checks -/
theorem stepC_lt {c : Nat} (_ : c < 4294967296) : stepC c < 4294967296 := by
  unfold stepC
  split
  · exact Nat.xor_lt_two_pow (n := 32) (by omega) (by omega)
  · omega
theorem stepC_inj {c d : Nat} (hc : c < 4294967296) (hd : d < 4294967296) (h : stepC c = stepC d) : c = d := by
  have key : ∀ a : Nat, ((a * 2 % 4294967296) ^^^ 79764919) % 2 = 1 := fun a => by
    rw [Nat.xor_mod_two_eq_one]
    omega
  unfold stepC at h
  split at h
  · split at h
    · have h1 : (c * 2 % 4294967296) ^^^ 79764919 ^^^ 79764919 = (d * 2 % 4294967296) ^^^ 79764919 ^^^ 79764919 := by rw [h]
      simp only [Nat.xor_assoc, Nat.xor_self, Nat.xor_zero] at h1
      omega
    · have := key c
      omega
  · split at h
    · have := key d
      omega
    · omega
theorem stepsC_lt : ∀ (k : Nat) {c : Nat}, c < 4294967296 → stepsC k c < 4294967296
  | 0, _, h => h
  | k + 1, _, h => stepsC_lt k (stepC_lt h)
theorem stepsC_inj : ∀ (k : Nat) {c d : Nat}, c < 4294967296 → d < 4294967296 → stepsC k c = stepsC k d → c = d
  | 0, _, _, _, _, h => h
  | k + 1, _, _, hc, hd, h => stepC_inj hc hd (stepsC_inj k (stepC_lt hc) (stepC_lt hd) h)
theorem xor_lt32 {c x : Nat} (hc : c < 4294967296) (hx : x < 256) : c ^^^ (x * 16777216) < 4294967296 :=
  Nat.xor_lt_two_pow (n := 32) (by omega) (by omega)
theorem byteC_lt {c x : Nat} (hc : c < 4294967296) (hx : x < 256) : byteC c x < 4294967296 := stepsC_lt 8 (xor_lt32 hc hx)
theorem byteC_inj {c d x : Nat} (hc : c < 4294967296) (hd : d < 4294967296) (hx : x < 256) (h : byteC c x = byteC d x) : c = d := by
  have h1 := stepsC_inj 8 (xor_lt32 hc hx) (xor_lt32 hd hx) h
  have h2 : c ^^^ (x * 16777216) ^^^ (x * 16777216) = d ^^^ (x * 16777216) ^^^ (x * 16777216) := by rw [h1]
  simpa [Nat.xor_assoc] using h2
theorem crc_nil (c : Nat) : crc c [] = c := rfl
theorem crc_cons (c x : Nat) (l : List Nat) : crc c (x :: l) = crc (byteC c x) l := rfl
theorem crc_append (c : Nat) (l m : List Nat) : crc c (l ++ m) = crc (crc c l) m := List.foldl_append
theorem crc_lt : ∀ (l : List Nat) {c : Nat}, c < 4294967296 → (∀ x ∈ l, x < 256) → crc c l < 4294967296
  | [], _, h, _ => h
  | x :: l, _, h, hl => crc_lt l (byteC_lt h (hl x (List.mem_cons_self ..))) fun y hy => hl y (List.mem_cons_of_mem _ hy)
theorem crc_inj : ∀ (l : List Nat) {c d : Nat}, c < 4294967296 → d < 4294967296 → (∀ x ∈ l, x < 256) → crc c l = crc d l → c = d
  | [], _, _, _, _, _, h => h
  | x :: l, _, _, hc, hd, hl, h =>
    have hx := hl x (List.mem_cons_self ..)
    byteC_inj hc hd hx (crc_inj l (byteC_lt hc hx) (byteC_lt hd hx) (fun y hy => hl y (List.mem_cons_of_mem _ hy)) h)
theorem headR_bytes {r : List Nat} (h : ∀ x ∈ r, x < 256) : ∀ x ∈ headR r, x < 256 := fun x hx => by
  rcases List.mem_append.1 hx with hx | hx
  · exact num4_bytes _ x hx
  · exact h x hx
theorem headR_length (r : List Nat) : (headR r).length = 4 + r.length := by simp [headR, num4_length]
theorem nextC_lt {c : Nat} {r : List Nat} (hc : c < 4294967296) (hr : ∀ x ∈ r, x < 256) : nextC c r < 4294967296 := crc_lt _ hc (headR_bytes hr)
theorem laidR_length (c : Nat) (r : List Nat) : (laidR c r).length = r.length + 8 := by
  simp only [laidR, List.length_append, headR_length, num4_length]
  omega
theorem laidR_bytes {c : Nat} {r : List Nat} (h : ∀ x ∈ r, x < 256) : ∀ x ∈ laidR c r, x < 256 := fun x hx => by
  rcases List.mem_append.1 hx with hx | hx
  · exact headR_bytes h x hx
  · exact num4_bytes _ x hx
/-! ### What is told -/
/-- Bytes that begin as a record behind another check do, or behind the same one. -/
theorem recs_head (c c' : Nat) (r t : List Nat) (hr : r.length ≤ 65536) : recs c (laidR c' r ++ t) =
    if num4 (nextC c r) = num4 (nextC c' r) then (r, nextC c r) :: recs (nextC c r) t else [] := by
  have e1 : laidR c' r ++ t = num4 r.length ++ (r ++ (num4 (nextC c' r) ++ t)) := by simp [laidR, headR]
  have e2 : laidR c' r ++ t = headR r ++ (num4 (nextC c' r) ++ t) := by simp [laidR]
  have hl : (laidR c' r ++ t).length = r.length + 8 + t.length := by rw [List.length_append, laidR_length]
  have hv : val4 (laidR c' r ++ t) = r.length := by rw [e1, val4_num4 _ (by omega)]
  have ht : (laidR c' r ++ t).take (4 + r.length) = headR r := by rw [e2, ← headR_length]; exact List.take_left
  have hd : (laidR c' r ++ t).drop (4 + r.length) = num4 (nextC c' r) ++ t := by rw [e2, ← headR_length]; exact List.drop_left
  have hd4 : (laidR c' r ++ t).drop 4 = r ++ (num4 (nextC c' r) ++ t) := by
    rw [e1]
    exact List.drop_left (l₁ := num4 r.length)
  have h8 : (laidR c' r ++ t).drop (4 + r.length + 4) = t := by
    rw [← List.drop_drop, hd]
    exact List.drop_left (l₁ := num4 (nextC c' r))
  rw [recs_eq, if_neg (by omega), hv, if_neg (by omega), ht, hd, hd4, h8]
  have h4 : (num4 (nextC c' r) ++ t).take 4 = num4 (nextC c' r) := List.take_left (l₁ := num4 (nextC c' r))
  have h5 : (r ++ (num4 (nextC c' r) ++ t)).take r.length = r := List.take_left
  rw [h4, h5]
  rfl
theorem recs_laid (c : Nat) (r t : List Nat) (hr : r.length ≤ 65536) : recs c (laidR c r ++ t) = (r, nextC c r) :: recs (nextC c r) t := by
  rw [recs_head c c r t hr, if_pos rfl]
theorem recs_alien {c c' : Nat} (hc : c < 4294967296) (hc' : c' < 4294967296) (hne : c ≠ c') (r t : List Nat) (hr : r.length ≤ 65536) (hb : ∀ x ∈ r, x < 256) : recs c (laidR c' r ++ t) = [] := by
  rw [recs_head c c' r t hr, if_neg]
  intro h
  exact hne (crc_inj _ hc hc' (headR_bytes hb) (num4_inj (nextC_lt hc hb) (nextC_lt hc' hb) h))
/-- A record that is torn is not told. -/
theorem recs_torn (c c' : Nat) (r t : List Nat) (k : Nat) (hr : r.length ≤ 65536) (hk : k < r.length + 8) : recs c ((laidR c' r ++ t).take k) = [] := by
  rw [recs_eq]
  have hl : ((laidR c' r ++ t).take k).length = k := by rw [List.length_take, List.length_append, laidR_length]; omega
  rw [hl]
  split
  · rfl
  · have hv : val4 ((laidR c' r ++ t).take k) = r.length := by
      have e1 : laidR c' r ++ t = num4 r.length ++ (r ++ (num4 (nextC c' r) ++ t)) := by simp [laidR, headR]
      rw [e1, List.take_append, List.take_of_length_le (by rw [num4_length]; omega), val4_num4 _ (by omega)]
    rw [hv, if_pos (by omega)]
theorem recs_nil (c : Nat) : recs c [] = [] := by rw [recs_eq, if_pos (by simp)]
def withC : Nat → List (List Nat) → List (List Nat × Nat)
  | _, [] => []
  | c, r :: R => (r, nextC c r) :: withC (nextC c r) R
theorem withC_fst : ∀ (c : Nat) (R : List (List Nat)), (withC c R).map Prod.fst = R
  | _, [] => rfl
  | c, r :: R => by simp [withC, withC_fst (nextC c r) R]
theorem recs_laidAll : ∀ (R : List (List Nat)) (c : Nat) (t : List Nat), (∀ r ∈ R, r.length ≤ 65536) → recs c (laidAll c R ++ t) = withC c R ++ recs (lastC c R) t
  | [], c, t, _ => rfl
  | r :: R, c, t, h => by
    rw [laidAll, List.append_assoc, recs_laid _ _ _ (h r (List.mem_cons_self ..)), recs_laidAll R _ t fun x hx => h x (List.mem_cons_of_mem _ hx)]
    rfl
theorem lastC_lt : ∀ (R : List (List Nat)) {c : Nat}, c < 4294967296 → (∀ r ∈ R, ∀ x ∈ r, x < 256) → lastC c R < 4294967296
  | [], _, hc, _ => hc
  | r :: R, _, hc, h => lastC_lt R (nextC_lt hc (h r (List.mem_cons_self ..))) fun y hy => h y (List.mem_cons_of_mem _ hy)
theorem laidAll_append : ∀ (R Q : List (List Nat)) (c : Nat), laidAll c (R ++ Q) = laidAll c R ++ laidAll (lastC c R) Q
  | [], _, _ => rfl
  | r :: R, Q, c => by simp [laidAll, lastC, laidAll_append R Q]
theorem lastC_append : ∀ (R Q : List (List Nat)) (c : Nat), lastC c (R ++ Q) = lastC (lastC c R) Q
  | [], _, _ => rfl
  | r :: R, Q, c => by simp [lastC, lastC_append R Q]
theorem laidAll_bytes : ∀ (R : List (List Nat)) (c : Nat), (∀ r ∈ R, ∀ x ∈ r, x < 256) → ∀ x ∈ laidAll c R, x < 256
  | [], _, _, x, hx => by simp [laidAll] at hx
  | r :: R, c, h, x, hx => by
    rcases List.mem_append.1 hx with hx | hx
    · exact laidR_bytes (h r (List.mem_cons_self ..)) x hx
    · exact laidAll_bytes R _ (fun y hy => h y (List.mem_cons_of_mem _ hy)) x hx
/-- Where so many records end. -/
def endN (R : List (List Nat)) (k : Nat) : Nat := ((R.take k).map fun r => r.length + 8).sum
theorem laidAll_length : ∀ (R : List (List Nat)) (c : Nat), (laidAll c R).length = (R.map fun r => r.length + 8).sum
  | [], _ => rfl
  | r :: R, c => by simp [laidAll, laidR_length, laidAll_length R]
theorem endN_laid (R : List (List Nat)) (c k : Nat) : (laidAll c (R.take k)).length = endN R k := laidAll_length _ _
theorem endN_all (R : List (List Nat)) (c : Nat) : (laidAll c R).length = endN R R.length := by rw [laidAll_length, endN, List.take_length]
theorem endN_succ {R : List (List Nat)} {k : Nat} {r : List Nat} (h : R[k]? = some r) : endN R (k + 1) = endN R k + (r.length + 8) := by
  unfold endN
  rw [List.take_add_one, h]
  simp
theorem laid_cut (R : List (List Nat)) (c k : Nat) : laidAll c R = laidAll c (R.take k) ++ laidAll (lastC c (R.take k)) (R.drop k) := by
  rw [← laidAll_append, List.take_append_drop]
/-- What is told: the records alone. -/
def told (b : List Nat) : List (List Nat) := (recs firstC b).map Prod.fst
theorem told_all {R : List (List Nat)} (h : ∀ r ∈ R, r.length ≤ 65536) : told (laidAll firstC R) = R := by
  have h1 := recs_laidAll R firstC [] h
  rw [List.append_nil, recs_nil, List.append_nil] at h1
  rw [told, h1, withC_fst]
/-- What goes on behind records, from another check. -/
theorem told_on {R Q : List (List Nat)} {c : Nat} (h : ∀ r ∈ R, r.length ≤ 65536) (hq : ∀ r ∈ Q, r.length ≤ 65536) (hb : ∀ r ∈ R, ∀ x ∈ r, x < 256) (hqb : ∀ r ∈ Q, ∀ x ∈ r, x < 256) (hc : c < 4294967296) :
    told (laidAll firstC R ++ laidAll c Q) = R ++ (if lastC firstC R = c then Q else []) := by
  rw [told, recs_laidAll R firstC _ h, List.map_append, withC_fst]
  congr 1
  by_cases he : lastC firstC R = c
  · rw [if_pos he, he]
    have h1 := recs_laidAll Q c [] hq
    rw [List.append_nil, recs_nil, List.append_nil] at h1
    rw [h1, withC_fst]
  · rw [if_neg he]
    cases Q with
    | nil => rw [laidAll, recs_nil]; rfl
    | cons r Q =>
      rw [laidAll, recs_alien (lastC_lt R (show firstC < 4294967296 by decide) hb) hc he r _ (hq r (List.mem_cons_self ..)) (hqb r (List.mem_cons_self ..))]
      rfl
/-- So many bytes of records: those that end there, or ahead. -/
theorem told_take {R : List (List Nat)} {k n : Nat} (h : ∀ r ∈ R, r.length ≤ 65536) (hk : k ≤ R.length) (h1 : endN R k ≤ n) (h2 : k < R.length → n < endN R (k + 1)) (h3 : n ≤ endN R R.length) :
    recs firstC ((laidAll firstC R).take n) = withC firstC (R.take k) := by
  rw [laid_cut R firstC k, List.take_append, List.take_of_length_le (by rw [endN_laid]; exact h1), recs_laidAll _ _ _ (fun r hr => h r (List.mem_of_mem_take hr)), endN_laid]
  rcases Nat.lt_or_ge k R.length with hlt | hge
  · have hr : R[k]? = some R[k] := List.getElem?_eq_getElem hlt
    have h2' := h2 hlt
    rw [endN_succ hr] at h2'
    rw [List.drop_eq_getElem_cons hlt, laidAll, recs_torn _ _ _ _ _ (h _ (List.getElem_mem hlt)) (by omega), List.append_nil]
  · have e : k = R.length := by omega
    subst e
    have e0 : n - endN R R.length = 0 := by omega
    rw [e0, List.take_zero, recs_nil, List.append_nil]
end Go.Proofs.YtjfejpdeccnlnaaDoor
namespace Go.Proofs.YtjfejpdeccnlnaaDoor
open Go.ChangeShapes Go.WideShapes Go.ChangeAt Go.RowKit

/-- The slice v holds these slices of bytes. -/
def PartsAt (w : World) (v : Value) (L : List (List Nat)) : Prop :=
  ∃ (ao : Option Addr) (cap : Nat), v = .slice ao L.length cap ∧ L.length ≤ cap ∧ cap ≤ maxLen ∧ (ao = none → cap = 0) ∧
    (0 < L.length → ∃ b o, ao = some ⟨b, o, none⟩ ∧ ∀ (i : Nat) (l : List Nat), L[i]? = some l → ∃ u, w.cell? ⟨b, o + i, none⟩ = some u ∧ KAt .u8 w u l)
theorem PartsAt.later {w w' : World} {v : Value} {L : List (List Nat)} (h : PartsAt w v L) (hb : Below w.heap.size w w') : PartsAt w' v L := by
  obtain ⟨ao, cap, h1, h2, h3, h4, h5⟩ := h
  refine ⟨ao, cap, h1, h2, h3, h4, fun h0 => ?_⟩
  obtain ⟨b, o, h6, h7⟩ := h5 h0
  refine ⟨b, o, h6, fun i l hl => ?_⟩
  obtain ⟨u, h8, h9⟩ := h7 i l hl
  exact ⟨u, cell_on h8 hb, h9.later hb⟩
theorem crc_drop {c : Nat} {l : List Nat} {k x : Nat} (h : l[k]? = some x) : crc c (l.drop k) = crc (byteC c x) (l.drop (k + 1)) := by
  obtain ⟨hk, rfl⟩ := List.getElem?_eq_some_iff.1 h
  rw [List.drop_eq_getElem_cons hk, crc_cons]
theorem crc_flat {c : Nat} {L : List (List Nat)} {k : Nat} {l : List Nat} (h : L[k]? = some l) : crc c (L.drop k).flatten = crc (crc c l) (L.drop (k + 1)).flatten := by
  obtain ⟨hk, rfl⟩ := List.getElem?_eq_some_iff.1 h
  rw [List.drop_eq_getElem_cons hk, List.flatten_cons, crc_append]
set_option linter.unusedSimpArgs false in
set_option linter.unusedVariables false in
set_option maxRecDepth 20000 in
set_option maxHeartbeats 4000000 in
theorem over_any {c0 : Nat} {v : Value} {L : List (List Nat)} (w : World) (hc0 : c0 < 4294967296) (hL : ∀ l ∈ L, Bytes l) (hv : PartsAt w v L) :
    Calls Tryd.prog 51 #[.int .u32 c0, v] w fun e w' => e = .returned (.int .u32 (crc c0 L.flatten)) ∧ ∃ n, w' = w.drewN n := by
  obtain ⟨ao, cap, rfl, hc1, hc2, hc3, hc4⟩ := hv
  unfold maxLen at hc2
  obtain ⟨m, hm⟩ : ∃ m, m = L.length := ⟨_, rfl⟩
  have HM := Lib.hid hm
  have HL := Lib.hid hL
  rw [← hm] at hc1 hc4 ⊢
  have H4 := Lib.hid hc4
  have hm9 : (m : Int) ≤ 9223372036854775807 := by omega
  clear hc3 hc4 hm hL
  go_enter Tryd.func51, Tryd.ntmps51
  go_wp2_with fail
  go_loopw [0, 12] (fun c i wr => ∃ k n cc : Nat, k ≤ m ∧ i = .int .i64 k ∧ c = .int .u32 cc ∧ cc < 4294967296 ∧ Hid (crc cc (L.drop k).flatten = crc c0 L.flatten) ∧ wr = w.drewN n) (fun _ i _ => m - (intOf i).toNat)
  case atStart => exact ⟨0, 0, c0, Nat.zero_le _, rfl, rfl, hc0, Lib.hid rfl, rfl⟩
  case round =>
    obtain ⟨k, n, cc, hk, rfl, rfl, hcc, HC, rfl⟩ := hrel
    by_cases hlt : k < m
    · have hltI : (k : Int) < (m : Int) := by omega
      obtain ⟨l, hl⟩ : ∃ l, L[k]? = some l := ⟨_, List.getElem?_eq_getElem (by rw [← HM.out]; exact hlt)⟩
      obtain ⟨b, o, rfl, hcell⟩ := H4.out (by omega)
      obtain ⟨u, hu, hkl⟩ := hcell k l hl
      have hlb := HL.out l (List.mem_of_getElem? hl)
      obtain ⟨ao2, cap2, rfl, hd1, hd2, hd3, hd4⟩ := hkl
      unfold maxLen at hd2
      obtain ⟨q, hq⟩ : ∃ q, q = l.length := ⟨_, rfl⟩
      have HQ := Lib.hid hq
      rw [← hq] at hd1 hd4 hu
      have H5 := Lib.hid hd4
      have HLK := Lib.hid hl
      have HLB := Lib.hid hlb
      have hq9 : (q : Int) ≤ 9223372036854775807 := by omega
      clear hcell hl hd3 hd4 hq hlb
      go_wp2_with fail
      go_loopw [0, 18] (fun c i wr => ∃ k2 n2 c2 : Nat, k2 ≤ q ∧ i = .int .i64 k2 ∧ c = .int .u32 c2 ∧ c2 < 4294967296 ∧ Hid (crc c2 (l.drop k2) = crc cc l) ∧ wr = w.drewN n2) (fun _ i _ => q - (intOf i).toNat)
      case atStart => exact ⟨0, _, cc, Nat.zero_le _, rfl, rfl, hcc, Lib.hid rfl, rfl⟩
      case round =>
        obtain ⟨k2, n2, c2, hk2, rfl, rfl, hc2', HC2, rfl⟩ := hrel
        by_cases hlt2 : k2 < q
        · have hlt2I : (k2 : Int) < (q : Int) := by omega
          obtain ⟨x, hx⟩ : ∃ x, l[k2]? = some x := ⟨_, List.getElem?_eq_getElem (by rw [← HQ.out]; exact hlt2)⟩
          obtain ⟨b2, o2, rfl, hcell2⟩ := H5.out (by omega)
          have cc2 := hcell2 k2 x hx
          have hx9 := HLB.out x (List.mem_of_getElem? hx)
          have HX := Lib.hid hx
          clear hcell2 hx
          obtain ⟨y, hy⟩ : ∃ y, y = x * 16777216 := ⟨_, rfl⟩
          have hy9 : y < 4294967296 := by omega
          obtain ⟨z, hz⟩ : ∃ z, z = c2 ^^^ y := ⟨_, rfl⟩
          have ez : bits .xor .u32 (c2 : Int) ((x : Int) * 16777216) = (z : Int) := by rw [show (x : Int) * 16777216 = (y : Int) by omega, hz]; exact u32_xor_nat _ _ hc2' hy9
          have HZ := Lib.hid (show byteC c2 x = stepsC 8 z by rw [byteC, hz, hy])
          have hz9 : z < 4294967296 := by rw [hz, hy]; exact xor_lt32 hc2' hx9
          clear hy hz
          go_wp2_with fail
          go_loopw [0, 27] (fun c i wr => ∃ k3 c3 : Nat, k3 ≤ 8 ∧ i = .int .i64 k3 ∧ c = .int .u32 c3 ∧ c3 < 4294967296 ∧ Hid (stepsC (8 - k3) c3 = stepsC 8 z) ∧ wr = w.drewN n2) (fun _ i _ => 8 - (intOf i).toNat)
          case atStart => exact ⟨0, z, by omega, rfl, rfl, hz9, Lib.hid rfl, rfl⟩
          case round =>
            obtain ⟨k3, c3, hk3, rfl, rfl, hc3', HC3, rfl⟩ := hrel
            by_cases hlt3 : k3 < 8
            · have hlt3I : (k3 : Int) < 8 := by omega
              have hst : stepsC (8 - k3) c3 = stepsC (8 - (k3 + 1)) (stepC c3) := by
                rw [show 8 - k3 = (8 - (k3 + 1)) + 1 by omega]
                rfl
              have HST := Lib.hid hst
              clear hst
              obtain ⟨e, he⟩ : ∃ e, e = c3 * 2 % 4294967296 := ⟨_, rfl⟩
              have ee : IntKind.u32.wrap ((c3 : Int) * 2) = (e : Int) := by rw [IntKind.wrap_u32']; omega
              have he9 : e < 4294967296 := by omega
              obtain ⟨t, ht⟩ : ∃ t, t = c3 / 2147483648 := ⟨_, rfl⟩
              have et : (c3 : Int) / 2 ^ 31 = (t : Int) := by rw [ht]; rfl
              have et2 : (c3 : Int) / 2147483648 = (t : Int) := by rw [ht]; rfl
              obtain ⟨f, hf⟩ : ∃ f, f = e ^^^ 79764919 := ⟨_, rfl⟩
              have ef : bits .xor .u32 (e : Int) 79764919 = (f : Int) := by rw [hf]; exact u32_xor_nat _ 79764919 he9 (by decide)
              have hf9 : f < 4294967296 := by rw [hf]; exact Nat.xor_lt_two_pow (n := 32) he9 (by decide)
              by_cases h1 : t = 1
              · have h1I : (t : Int) = 1 := by omega
                have HS := Lib.hid (show stepC c3 = f by rw [stepC, if_pos (by rw [← ht]; exact h1), hf, he])
                clear hf he ht
                go_wp2_with fail
                go_roundw
                case rel => exact ⟨k3 + 1, f, by omega, by go_num, rfl, hf9, Lib.hid (by rw [← HC3.out, HST.out, HS.out]), trivial⟩
                case measure => simp [intOf]; omega
              · have h1I : ¬ ((t : Int) = 1) := by omega
                have HS := Lib.hid (show stepC c3 = e by rw [stepC, if_neg (by rw [← ht]; exact h1), he])
                clear hf he ht
                go_wp2_with fail
                go_roundw
                case rel => exact ⟨k3 + 1, e, by omega, by go_num, rfl, he9, Lib.hid (by rw [← HC3.out, HST.out, HS.out]), trivial⟩
                case measure => simp [intOf]; omega
            · obtain rfl : k3 = 8 := by omega
              have hS : c3 = byteC c2 x := by
                have h9 := HC3.out
                rw [HZ.out, ← h9]
                rfl
              have HS := Lib.hid hS
              clear hS
              go_wp2_with fail
              go_roundw
              case rel => exact ⟨k2 + 1, _, c3, by omega, by go_num, rfl, hc3', Lib.hid (by rw [← HC2.out, crc_drop HX.out, HS.out]), rfl⟩
              case measure => simp [intOf]; omega
        · obtain rfl : k2 = q := by omega
          have hlt2I : ¬ ((k2 : Int) < (k2 : Int)) := by omega
          have hS : c2 = crc cc l := by
            have h9 := HC2.out
            rw [HQ.out, List.drop_length, crc_nil] at h9
            exact h9
          have HS := Lib.hid hS
          clear hS
          go_wp2_with fail
          go_roundw
          case rel => exact ⟨k + 1, _, c2, by omega, by go_num, rfl, hc2', Lib.hid (by rw [← HC.out, crc_flat HLK.out, HS.out]), rfl⟩
          case measure => simp [intOf]; omega
    · obtain rfl : k = m := by omega
      have hltI : ¬ ((k : Int) < (k : Int)) := by omega
      have hS : cc = crc c0 L.flatten := by
        have h9 := HC.out
        rw [HM.out, List.drop_length] at h9
        exact h9
      have HS := Lib.hid hS
      clear hS
      go_wp2_with fail
      go_ret
      refine ⟨?_, _, rfl⟩
      rw [← HS.out]
      rfl
end Go.Proofs.YtjfejpdeccnlnaaDoor
