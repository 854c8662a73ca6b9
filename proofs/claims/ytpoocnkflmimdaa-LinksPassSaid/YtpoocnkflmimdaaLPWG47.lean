/- Layer 20 (links): ends, and a frame's Hash; Layer 20 (links): Seal, in a setting that may be; LinksSame: the walk -/
import Derived.Test.YtpoocnkflmimdaaLPWG36
import Derived.Test.YtpoocnkflmimdaaLPWG38
import Derived.Test.YtpoocnkflmimdaaLPWG18
import Derived.Deep.DeepCutAuto
import Derived.Test.YtpoocnkflmimdaaLPWG45
import Derived.Test.YtpoocnkflmimdaaLPWG41
import Derived.Test.YtpoocnkflmimdaaLPWG44
import Derived.Test.YtpoocnkflmimdaaLPWG46
namespace Go.Proofs.Ytpoocnkflmimdaa
open Go.ChangeShapes Go.WideShapes Go.ChangeAt Go.RowKit
/-- A frame, as a value. -/
def frameV (fr tt : Nat) (bv : Value) (c s : Nat) : Value := .agg #[.int .u8 fr, .int .u8 tt, bv, .int .u64 (dgt W64 c 0), .int .u64 (dgt W64 c 1), .int .u64 (dgt W64 c 2), .int .u64 (dgt W64 c 3), .int .u64 (dgt W64 s 0), .int .u64 (dgt W64 s 1), .int .u64 (dgt W64 s 2), .int .u64 (dgt W64 s 3)]
def frameB : List Nat := nums ⟨#[102, 114, 97, 109, 101]⟩
/-- A frame's hash. -/
def frameH (fr tt : Nat) (b : List Nat) : List Nat := shaOf (hashed frameB [[fr], [tt], b])
theorem frameH_length (fr tt : Nat) (b : List Nat) : (frameH fr tt b).length = 32 := shaOf_length _
theorem frameH_bytes (fr tt : Nat) (b : List Nat) : Bytes (frameH fr tt b) := shaOf_bytes _
theorem kat_one {w : World} {b x : Nat} (h : w.cell? ⟨b, 0, none⟩ = some (.int .u8 x)) : KAt .u8 w (.slice (some ⟨b, 0, none⟩) 1 1) [x] :=
  ⟨_, 1, rfl, Nat.le_refl _, by decide, (fun h => by cases h), fun _ => ⟨b, 0, rfl, fun i y hy => by
    have hl := (List.getElem?_eq_some_iff.1 hy).1
    obtain rfl : i = 0 := by simp at hl; exact hl
    simp at hy
    subst hy
    exact h⟩⟩
/-- A frame in a block. -/
structure FrAt (w : World) (b fr tt : Nat) (bv : Value) (c s : Nat) : Prop where
  fr : w.cell? ⟨b, 0, none⟩ = some (.int .u8 fr)
  tt : w.cell? ⟨b, 1, none⟩ = some (.int .u8 tt)
  bv : w.cell? ⟨b, 2, none⟩ = some bv
  c : NumO w b 3 c
  s : NumO w b 7 s
  free : FreeN w b 11
theorem FrAt.lt {w : World} {b fr tt : Nat} {bv : Value} {c s : Nat} (h : FrAt w b fr tt bv c s) : b < w.heap.size := h.c.lt
theorem FrAt.later {w w' : World} {b fr tt : Nat} {bv : Value} {c s : Nat} (h : FrAt w b fr tt bv c s) (hb : Below w.heap.size w w') : FrAt w' b fr tt bv c s :=
  ⟨cell_on h.fr hb, cell_on h.tt hb, cell_on h.bv hb, NumO.later hb h.c, NumO.later hb h.s, h.free.later hb h.lt⟩
theorem FrAt.new (w : World) (fr tt : Nat) (bv : Value) (c s : Nat) (t : TypeId) : FrAt (w.alloc (.cells #[.int .u8 fr, .int .u8 tt, bv, .int .u64 (dgt W64 c 0), .int .u64 (dgt W64 c 1), .int .u64 (dgt W64 c 2), .int .u64 (dgt W64 c 3), .int .u64 (dgt W64 s 0), .int .u64 (dgt W64 s 1), .int .u64 (dgt W64 s 2), .int .u64 (dgt W64 s 3)] t)) w.heap.size fr tt bv c s :=
  ⟨by rw [cell_of_row _ _ _ _ _ _ (heap_alloc_new _ _)]; rfl, by rw [cell_of_row _ _ _ _ _ _ (heap_alloc_new _ _)]; rfl, by rw [cell_of_row _ _ _ _ _ _ (heap_alloc_new _ _)]; rfl,
    fun j hj => by rw [cell_of_row _ _ _ _ _ _ (heap_alloc_new _ _)]; rcases (show j = 0 ∨ j = 1 ∨ j = 2 ∨ j = 3 by omega) with rfl | rfl | rfl | rfl <;> rfl,
    fun j hj => by rw [cell_of_row _ _ _ _ _ _ (heap_alloc_new _ _)]; rcases (show j = 0 ∨ j = 1 ∨ j = 2 ∨ j = 3 by omega) with rfl | rfl | rfl | rfl <;> rfl, FreeN.new _ _ _ _⟩
theorem info_fr : (Try.prog.info? 50).map (·.size) = some 11 := by kernel_rfl
theorem loadFr {w : World} {b fr tt : Nat} {bv : Value} {c s : Nat} (h : FrAt w b fr tt bv c s) : (Instr.loadAt 50 (.pointer (some ⟨b, 0, none⟩))).run Try.prog w = .ok (.agg #[.int .u8 fr, .int .u8 tt, bv, .int .u64 (dgt W64 c 0), .int .u64 (dgt W64 c 1), .int .u64 (dgt W64 c 2), .int .u64 (dgt W64 c 3), .int .u64 (dgt W64 s 0), .int .u64 (dgt W64 s 1), .int .u64 (dgt W64 s 2), .int .u64 (dgt W64 s 3)]) w := by
  have y0 := h.fr
  have y1 := h.tt
  have y2 := h.bv
  have l0 := h.c 0 (by decide)
  have l1 := h.c 1 (by decide)
  have l2 := h.c 2 (by decide)
  have l3 := h.c 3 (by decide)
  have l4 := h.s 0 (by decide)
  have l5 := h.s 1 (by decide)
  have l6 := h.s 2 (by decide)
  have l7 := h.s 3 (by decide)
  simp only [Nat.reduceAdd] at l0 l1 l2 l3 l4 l5 l6 l7
  exact run_loadAt_mid (P := Try.prog) w b 0 50 [.int .u8 fr, .int .u8 tt, bv, .int .u64 (dgt W64 c 0), .int .u64 (dgt W64 c 1), .int .u64 (dgt W64 c 2), .int .u64 (dgt W64 c 3), .int .u64 (dgt W64 s 0), .int .u64 (dgt W64 s 1), .int .u64 (dgt W64 s 2), .int .u64 (dgt W64 s 3)] _ (by
    intro j v hj
    have hl := (List.getElem?_eq_some_iff.1 hj).1
    simp only [List.length_cons, List.length_nil] at hl
    rw [Nat.zero_add]
    rcases (show j = 0 ∨ j = 1 ∨ j = 2 ∨ j = 3 ∨ j = 4 ∨ j = 5 ∨ j = 6 ∨ j = 7 ∨ j = 8 ∨ j = 9 ∨ j = 10 by omega) with rfl | rfl | rfl | rfl | rfl | rfl | rfl | rfl | rfl | rfl | rfl <;> (simp at hj; subst hj; assumption)) Try.underlying50 rfl info_fr
theorem loadU8 {w : World} {b o : Nat} {v : Value} (h : w.cell? ⟨b, o, none⟩ = some v) : (Instr.loadAt 5 (.pointer (some ⟨b, o, none⟩))).run Try.prog w = .ok v w := by
  simp [go_sem, h]
theorem loadBs {w : World} {b o : Nat} {v : Value} (h : w.cell? ⟨b, o, none⟩ = some v) : (Instr.loadAt 46 (.pointer (some ⟨b, o, none⟩))).run Try.prog w = .ok v w := by
  simp [go_sem, h]
/-- Are both nodes of a setting, unlike ones? -/
def endsB (n fr tt : Nat) : Bool := if fr < 1 then false else if tt < 1 then false else if n < fr then false else if n < tt then false else if fr = tt then false else true
set_option linter.unusedSimpArgs false in
set_option linter.unusedVariables false in
set_option maxRecDepth 20000 in
set_option maxHeartbeats 4000000 in
theorem ends_0 {gp gq gg gh n cap fr tt : Nat} {fa se : Int} {ao : Option Addr}  (p : fr < 1) (hn : n ≤ 7) (hfr : fr < 256) (hto : tt < 256) (w : World) :
    Calls Try.prog 20 #[setV gp gq gg gh fa se (.slice ao n cap), .int .u8 fr, .int .u8 tt] w fun e w' => e = .returned (.bool (endsB n fr tt)) ∧ Below w.heap.size w w' := by
  have hv : endsB n fr tt = false := by unfold endsB; rw [if_pos p]
  rw [hv]
  have k1 : ¬ (1 : Int) ≤ (fr : Int) := by omega
  have g1 : (fr : Int) < 256 := by omega
  have g2 : (tt : Int) < 256 := by omega
  have g3 : (0 : Int) ≤ (fr : Int) := by omega
  have g4 : (0 : Int) ≤ (tt : Int) := by omega
  clear hv hn hfr hto p
  unfold setV
  go_enter Try.func20, Try.ntmps20
  go_wp2_with fail
  go_ret
  exact ⟨rfl, (Below.refl _ _).alloc (Nat.le_refl _) _⟩
set_option linter.unusedSimpArgs false in
set_option linter.unusedVariables false in
set_option maxRecDepth 20000 in
set_option maxHeartbeats 4000000 in
theorem ends_1 {gp gq gg gh n cap fr tt : Nat} {fa se : Int} {ao : Option Addr} (n0 : ¬ fr < 1) (p : tt < 1) (hn : n ≤ 7) (hfr : fr < 256) (hto : tt < 256) (w : World) :
    Calls Try.prog 20 #[setV gp gq gg gh fa se (.slice ao n cap), .int .u8 fr, .int .u8 tt] w fun e w' => e = .returned (.bool (endsB n fr tt)) ∧ Below w.heap.size w w' := by
  have hv : endsB n fr tt = false := by unfold endsB; rw [if_neg n0, if_pos p]
  rw [hv]
  have k1 : (1 : Int) ≤ (fr : Int) := by omega
  have k2 : ¬ (1 : Int) ≤ (tt : Int) := by omega
  have g1 : (fr : Int) < 256 := by omega
  have g2 : (tt : Int) < 256 := by omega
  have g3 : (0 : Int) ≤ (fr : Int) := by omega
  have g4 : (0 : Int) ≤ (tt : Int) := by omega
  clear hv hn hfr hto n0 p
  unfold setV
  go_enter Try.func20, Try.ntmps20
  go_wp2_with fail
  go_ret
  exact ⟨rfl, (Below.refl _ _).alloc (Nat.le_refl _) _⟩
set_option linter.unusedSimpArgs false in
set_option linter.unusedVariables false in
set_option maxRecDepth 20000 in
set_option maxHeartbeats 4000000 in
theorem ends_2 {gp gq gg gh n cap fr tt : Nat} {fa se : Int} {ao : Option Addr} (n0 : ¬ fr < 1) (n1 : ¬ tt < 1) (p : n < fr) (hn : n ≤ 7) (hfr : fr < 256) (hto : tt < 256) (w : World) :
    Calls Try.prog 20 #[setV gp gq gg gh fa se (.slice ao n cap), .int .u8 fr, .int .u8 tt] w fun e w' => e = .returned (.bool (endsB n fr tt)) ∧ Below w.heap.size w w' := by
  have hv : endsB n fr tt = false := by unfold endsB; rw [if_neg n0, if_neg n1, if_pos p]
  rw [hv]
  have k1 : (1 : Int) ≤ (fr : Int) := by omega
  have k2 : (1 : Int) ≤ (tt : Int) := by omega
  have k3 : ¬ (fr : Int) ≤ (n : Int) := by omega
  have g1 : (fr : Int) < 256 := by omega
  have g2 : (tt : Int) < 256 := by omega
  have g3 : (0 : Int) ≤ (fr : Int) := by omega
  have g4 : (0 : Int) ≤ (tt : Int) := by omega
  clear hv hn hfr hto n0 n1 p
  unfold setV
  go_enter Try.func20, Try.ntmps20
  go_wp2_with fail
  go_ret
  exact ⟨rfl, (Below.refl _ _).alloc (Nat.le_refl _) _⟩
set_option linter.unusedSimpArgs false in
set_option linter.unusedVariables false in
set_option maxRecDepth 20000 in
set_option maxHeartbeats 4000000 in
theorem ends_3 {gp gq gg gh n cap fr tt : Nat} {fa se : Int} {ao : Option Addr} (n0 : ¬ fr < 1) (n1 : ¬ tt < 1) (n2 : ¬ n < fr) (p : n < tt) (hn : n ≤ 7) (hfr : fr < 256) (hto : tt < 256) (w : World) :
    Calls Try.prog 20 #[setV gp gq gg gh fa se (.slice ao n cap), .int .u8 fr, .int .u8 tt] w fun e w' => e = .returned (.bool (endsB n fr tt)) ∧ Below w.heap.size w w' := by
  have hv : endsB n fr tt = false := by unfold endsB; rw [if_neg n0, if_neg n1, if_neg n2, if_pos p]
  rw [hv]
  have k1 : (1 : Int) ≤ (fr : Int) := by omega
  have k2 : (1 : Int) ≤ (tt : Int) := by omega
  have k3 : (fr : Int) ≤ (n : Int) := by omega
  have k4 : ¬ (tt : Int) ≤ (n : Int) := by omega
  have g1 : (fr : Int) < 256 := by omega
  have g2 : (tt : Int) < 256 := by omega
  have g3 : (0 : Int) ≤ (fr : Int) := by omega
  have g4 : (0 : Int) ≤ (tt : Int) := by omega
  clear hv hn hfr hto n0 n1 n2 p
  unfold setV
  go_enter Try.func20, Try.ntmps20
  go_wp2_with fail
  go_ret
  exact ⟨rfl, (Below.refl _ _).alloc (Nat.le_refl _) _⟩
set_option linter.unusedSimpArgs false in
set_option linter.unusedVariables false in
set_option maxRecDepth 20000 in
set_option maxHeartbeats 4000000 in
theorem ends_4 {gp gq gg gh n cap fr tt : Nat} {fa se : Int} {ao : Option Addr} (n0 : ¬ fr < 1) (n1 : ¬ tt < 1) (n2 : ¬ n < fr) (n3 : ¬ n < tt) (p : fr = tt) (hn : n ≤ 7) (hfr : fr < 256) (hto : tt < 256) (w : World) :
    Calls Try.prog 20 #[setV gp gq gg gh fa se (.slice ao n cap), .int .u8 fr, .int .u8 tt] w fun e w' => e = .returned (.bool (endsB n fr tt)) ∧ Below w.heap.size w w' := by
  have hv : endsB n fr tt = false := by unfold endsB; rw [if_neg n0, if_neg n1, if_neg n2, if_neg n3, if_pos p]
  rw [hv]
  subst p
  have k1 : (1 : Int) ≤ (fr : Int) := by omega
  have k3 : (fr : Int) ≤ (n : Int) := by omega
  have g1 : (fr : Int) < 256 := by omega
  have g3 : (0 : Int) ≤ (fr : Int) := by omega
  clear hv hn hfr hto n0 n1 n2 n3
  unfold setV
  go_enter Try.func20, Try.ntmps20
  go_wp2_with fail
  go_ret
  exact ⟨rfl, (Below.refl _ _).alloc (Nat.le_refl _) _⟩
set_option linter.unusedSimpArgs false in
set_option linter.unusedVariables false in
set_option maxRecDepth 20000 in
set_option maxHeartbeats 4000000 in
theorem ends_5 {gp gq gg gh n cap fr tt : Nat} {fa se : Int} {ao : Option Addr} (n0 : ¬ fr < 1) (n1 : ¬ tt < 1) (n2 : ¬ n < fr) (n3 : ¬ n < tt) (n4 : ¬ fr = tt) (hn : n ≤ 7) (hfr : fr < 256) (hto : tt < 256) (w : World) :
    Calls Try.prog 20 #[setV gp gq gg gh fa se (.slice ao n cap), .int .u8 fr, .int .u8 tt] w fun e w' => e = .returned (.bool (endsB n fr tt)) ∧ Below w.heap.size w w' := by
  have hv : endsB n fr tt = true := by unfold endsB; rw [if_neg n0, if_neg n1, if_neg n2, if_neg n3, if_neg n4]
  rw [hv]
  have k1 : (1 : Int) ≤ (fr : Int) := by omega
  have k2 : (1 : Int) ≤ (tt : Int) := by omega
  have k3 : (fr : Int) ≤ (n : Int) := by omega
  have k4 : (tt : Int) ≤ (n : Int) := by omega
  have k5 : ((fr : Int) != (tt : Int)) = true := by simp; omega
  have g1 : (fr : Int) < 256 := by omega
  have g2 : (tt : Int) < 256 := by omega
  have g3 : (0 : Int) ≤ (fr : Int) := by omega
  have g4 : (0 : Int) ≤ (tt : Int) := by omega
  clear hv hn hfr hto n0 n1 n2 n3 n4
  unfold setV
  go_enter Try.func20, Try.ntmps20
  go_wp2_with fail
  go_ret
  exact ⟨rfl, (Below.refl _ _).alloc (Nat.le_refl _) _⟩
theorem ends_any {gp gq gg gh n cap fr tt : Nat} {fa se : Int} {ao : Option Addr} (hn : n ≤ 7) (hfr : fr < 256) (hto : tt < 256) (w : World) :
    Calls Try.prog 20 #[setV gp gq gg gh fa se (.slice ao n cap), .int .u8 fr, .int .u8 tt] w fun e w' => e = .returned (.bool (endsB n fr tt)) ∧ Below w.heap.size w w' := by
  by_cases n0 : fr < 1
  · exact ends_0 n0 hn hfr hto w
  by_cases n1 : tt < 1
  · exact ends_1 n0 n1 hn hfr hto w
  by_cases n2 : n < fr
  · exact ends_2 n0 n1 n2 hn hfr hto w
  by_cases n3 : n < tt
  · exact ends_3 n0 n1 n2 n3 hn hfr hto w
  by_cases n4 : fr = tt
  · exact ends_4 n0 n1 n2 n3 n4 hn hfr hto w
  · exact ends_5 n0 n1 n2 n3 n4 hn hfr hto w
set_option linter.unusedSimpArgs false in
set_option linter.unusedVariables false in
set_option maxRecDepth 20000 in
set_option maxHeartbeats 4000000 in
theorem LHash_any {fr tt c s : Nat} {bv : Value} {b : List Nat} (hfr : fr < 256) (hto : tt < 256) (w : World) (hb : KAt .u8 w bv b) (hby : Bytes b) (hl : b.length ≤ 70000) :
    Calls Try.prog 23 #[frameV fr tt bv c s] w fun e w' => e = .returned (.agg (cellsK .u8 (frameH fr tt b)).toArray) ∧ Below w.heap.size w w' := by
  have CO := Lib.hid (fun (W : World) (B : Nat) (vs : List Value) (hP : Parts W B 0 vs [[fr], [tt], b]) => Of_any (s := ⟨#[102, 114, 97, 109, 101]⟩) (cap := 3) W hP (by simp) (by unfold maxLen; decide) (by
    intro l hl9
    simp only [List.mem_cons, List.not_mem_nil, or_false] at hl9
    rcases hl9 with rfl | rfl | rfl
    · intro x hx; simp at hx; omega
    · intro x hx; simp at hx; omega
    · exact hby) (by unfold hashed; simp [hdr_length, nums_length, enc_length, ByteArray.size]; omega))
  have KB := Lib.hid hb
  obtain ⟨ao, cap, rfl, _⟩ := id hb
  obtain ⟨n, hn⟩ : ∃ n, n = b.length := ⟨_, rfl⟩
  rw [← hn] at KB ⊢
  obtain ⟨T, hT⟩ : ∃ T, T = (cellsK .u8 (frameH fr tt b)).toArray := ⟨_, rfl⟩
  have hszT : (Try.prog.info? 31).map (·.size) = some T.size := by rw [info_hash, hT]; simp [cellsK_length, frameH_length]
  have h1T : T.all (·.oneCell') = true := by rw [hT]; exact cellsK_all _ _
  have CO := Lib.hid (fun (W : World) (B : Nat) (vs : List Value) (hP : Parts W B 0 vs [[fr], [tt], b]) => by have h9 := CO.out W B vs hP; rw [show shaOf (hashed (nums ⟨#[102, 114, 97, 109, 101]⟩) [[fr], [tt], b]) = frameH fr tt b from rfl, ← hT] at h9; exact h9)
  rw [← hT]
  unfold frameV
  clear hT hb hby hl hfr hto hn
  go_enter Try.func23, Try.ntmps23
  go_upto_region 1 with fail
  obtain ⟨v_0, e0⟩ : ∃ w9, w9 = w.alloc (.cells #[.int .u8 fr, .int .u8 tt, .slice ao n cap, .int .u64 (dgt W64 c 0), .int .u64 (dgt W64 c 1), .int .u64 (dgt W64 c 2), .int .u64 (dgt W64 c 3), .int .u64 (dgt W64 s 0), .int .u64 (dgt W64 s 1), .int .u64 (dgt W64 s 2), .int .u64 (dgt W64 s 3)] 50) := ⟨_, rfl⟩
  obtain ⟨v_1, e1⟩ : ∃ w9, w9 = v_0.alloc (.cells #[.int .u8 0, .int .u8 0, .int .u8 0, .int .u8 0, .int .u8 0, .int .u8 0, .int .u8 0, .int .u8 0, .int .u8 0, .int .u8 0, .int .u8 0, .int .u8 0, .int .u8 0, .int .u8 0, .int .u8 0, .int .u8 0, .int .u8 0, .int .u8 0, .int .u8 0, .int .u8 0, .int .u8 0, .int .u8 0, .int .u8 0, .int .u8 0, .int .u8 0, .int .u8 0, .int .u8 0, .int .u8 0, .int .u8 0, .int .u8 0, .int .u8 0, .int .u8 0] 31) := ⟨_, rfl⟩
  have s0 : v_0.heap.size = w.heap.size + 1 := by rw [e0]; simp
  have b0 : Below w.heap.size w v_0 := by rw [e0]; exact (Below.refl _ _).alloc (Nat.le_refl _) _
  have b1 : Below v_0.heap.size v_0 v_1 := by rw [e1]; exact (Below.refl _ _).alloc (Nat.le_refl _) _
  have f0 : FrAt v_0 w.heap.size fr tt (.slice ao n cap) c s := by rw [e0]; exact FrAt.new _ _ _ _ _ _ _
  have f1 : v_1.heap[w.heap.size + 1]? = some (.cells #[.int .u8 0, .int .u8 0, .int .u8 0, .int .u8 0, .int .u8 0, .int .u8 0, .int .u8 0, .int .u8 0, .int .u8 0, .int .u8 0, .int .u8 0, .int .u8 0, .int .u8 0, .int .u8 0, .int .u8 0, .int .u8 0, .int .u8 0, .int .u8 0, .int .u8 0, .int .u8 0, .int .u8 0, .int .u8 0, .int .u8 0, .int .u8 0, .int .u8 0, .int .u8 0, .int .u8 0, .int .u8 0, .int .u8 0, .int .u8 0, .int .u8 0, .int .u8 0] 31 (0, 0)) := by rw [← s0, e1]; exact heap_alloc_new _ _
  rw [← e0, ← e1]
  obtain ⟨FB, hFB⟩ : ∃ b, b = w.heap.size := ⟨_, rfl⟩
  rw [← hFB] at f0 f1 ⊢
  obtain ⟨OB, hOB⟩ : ∃ b, b = FB + 1 := ⟨_, rfl⟩
  rw [← hOB] at f1 ⊢
  have HOW := Lib.hid (show w.heap.size ≤ OB by omega)
  have HF := Lib.hid (f0.later b1)
  obtain ⟨Z, hZ⟩ : ∃ Z : Array Value, Z = #[.int .u8 0, .int .u8 0, .int .u8 0, .int .u8 0, .int .u8 0, .int .u8 0, .int .u8 0, .int .u8 0, .int .u8 0, .int .u8 0, .int .u8 0, .int .u8 0, .int .u8 0, .int .u8 0, .int .u8 0, .int .u8 0, .int .u8 0, .int .u8 0, .int .u8 0, .int .u8 0, .int .u8 0, .int .u8 0, .int .u8 0, .int .u8 0, .int .u8 0, .int .u8 0, .int .u8 0, .int .u8 0, .int .u8 0, .int .u8 0, .int .u8 0, .int .u8 0] := ⟨_, rfl⟩
  have hzs : Z.size = T.size := by rw [info_hash] at hszT; rw [hZ]; exact Option.some.inj hszT
  rw [← hZ] at f1
  have HO := Lib.hid f1
  have HB := Lib.hid (below_later b0 b1)
  have KB := Lib.hid (KB.out.later HB.out)
  clear e0 e1 s0 b0 b1 f0 f1 hFB hOB hZ
  refine wp_region_lit ?_
  refine wpList_val (v := .pointer (some ⟨FB, 0, none⟩)) rfl (by kernel_rfl) ?_
  simp only [Act.put, pa, pb, pc]
  refine wpList_val (v := .int .u8 fr) rfl (run_value_of (loadU8 HF.out.fr)) ?_
  simp only [Act.put, pa, pb, pc]
  refine wpList_made (v := .slice (some ⟨v_1.heap.size, 0, none⟩) 1 1) (w' := v_1.alloc (.cells #[.int .u8 fr] 5)) rfl (by kernel_rfl) ?_
  simp only [Act.put, pa, pb, pc]
  obtain ⟨v_2, e9⟩ : ∃ w9, w9 = v_1.alloc (.cells #[.int .u8 fr] 5) := ⟨_, rfl⟩
  obtain ⟨B1, h9⟩ : ∃ b, b = v_1.heap.size := ⟨_, rfl⟩
  have hb : Below v_1.heap.size v_1 v_2 := by rw [e9]; exact (Below.refl _ _).alloc (Nat.le_refl _) _
  have K1 := Lib.hid (show KAt .u8 v_2 (.slice (some ⟨B1, 0, none⟩) 1 1) [fr] by rw [e9, h9]; exact kat_one (by rw [cell_of_row _ _ _ _ _ _ (heap_alloc_new _ _)]; rfl))
  have LB1 := Lib.hid (show B1 < v_2.heap.size by rw [e9, h9]; simp)
  have WB1 := Lib.hid (show v_1.heap.size = B1 from h9.symm)
  rw [← e9, ← h9]
  clear e9 h9
  have HF := Lib.hid (HF.out.later hb)
  have HO := Lib.hid ((hb.block _ (Array.getElem?_eq_some_iff.1 HO.out).1).trans HO.out)
  have HB := Lib.hid (below_later HB.out hb)
  have KB := Lib.hid (KB.out.later hb)
  clear hb
  clear LB1 WB1
  refine wpList_val (v := .pointer (some ⟨FB, 1, none⟩)) rfl (by kernel_rfl) ?_
  simp only [Act.put, pa, pb, pc]
  refine wpList_val (v := .int .u8 tt) rfl (run_value_of (loadU8 HF.out.tt)) ?_
  simp only [Act.put, pa, pb, pc]
  refine wpList_made (v := .slice (some ⟨v_2.heap.size, 0, none⟩) 1 1) (w' := v_2.alloc (.cells #[.int .u8 tt] 5)) rfl (by kernel_rfl) ?_
  simp only [Act.put, pa, pb, pc]
  obtain ⟨v_3, e9⟩ : ∃ w9, w9 = v_2.alloc (.cells #[.int .u8 tt] 5) := ⟨_, rfl⟩
  obtain ⟨B2, h9⟩ : ∃ b, b = v_2.heap.size := ⟨_, rfl⟩
  have hb : Below v_2.heap.size v_2 v_3 := by rw [e9]; exact (Below.refl _ _).alloc (Nat.le_refl _) _
  have K2 := Lib.hid (show KAt .u8 v_3 (.slice (some ⟨B2, 0, none⟩) 1 1) [tt] by rw [e9, h9]; exact kat_one (by rw [cell_of_row _ _ _ _ _ _ (heap_alloc_new _ _)]; rfl))
  have LB2 := Lib.hid (show B2 < v_3.heap.size by rw [e9, h9]; simp)
  have WB2 := Lib.hid (show v_2.heap.size = B2 from h9.symm)
  rw [← e9, ← h9]
  clear e9 h9
  have HF := Lib.hid (HF.out.later hb)
  have HO := Lib.hid ((hb.block _ (Array.getElem?_eq_some_iff.1 HO.out).1).trans HO.out)
  have HB := Lib.hid (below_later HB.out hb)
  have KB := Lib.hid (KB.out.later hb)
  have K1 := Lib.hid (K1.out.later hb)
  clear hb
  clear LB2 WB2
  refine wpList_val (v := .pointer (some ⟨FB, 2, none⟩)) rfl (by kernel_rfl) ?_
  simp only [Act.put, pa, pb, pc]
  refine wpList_val (v := .slice ao n cap) rfl (run_value_of (loadBs HF.out.bv)) ?_
  simp only [Act.put, pa, pb, pc]
  refine wpList_made (v := .slice (some ⟨v_3.heap.size, 0, none⟩) 3 3) (w' := v_3.alloc (.cells #[.slice (some ⟨B1, 0, none⟩) 1 1, .slice (some ⟨B2, 0, none⟩) 1 1, .slice ao n cap] 46)) rfl (by kernel_rfl) ?_
  simp only [Act.put, pa, pb, pc]
  obtain ⟨v_4, e9⟩ : ∃ w9, w9 = v_3.alloc (.cells #[.slice (some ⟨B1, 0, none⟩) 1 1, .slice (some ⟨B2, 0, none⟩) 1 1, .slice ao n cap] 46) := ⟨_, rfl⟩
  obtain ⟨PB, h9⟩ : ∃ b, b = v_3.heap.size := ⟨_, rfl⟩
  have hb : Below v_3.heap.size v_3 v_4 := by rw [e9]; exact (Below.refl _ _).alloc (Nat.le_refl _) _
  have P0 := Lib.hid (show v_4.cell? ⟨PB, 0, none⟩ = some (.slice (some ⟨B1, 0, none⟩) 1 1) by rw [e9, h9]; rw [cell_of_row _ _ _ _ _ _ (heap_alloc_new _ _)]; rfl)
  have P1 := Lib.hid (show v_4.cell? ⟨PB, 1, none⟩ = some (.slice (some ⟨B2, 0, none⟩) 1 1) by rw [e9, h9]; rw [cell_of_row _ _ _ _ _ _ (heap_alloc_new _ _)]; rfl)
  have P2 := Lib.hid (show v_4.cell? ⟨PB, 2, none⟩ = some (.slice ao n cap) by rw [e9, h9]; rw [cell_of_row _ _ _ _ _ _ (heap_alloc_new _ _)]; rfl)
  have LPB := Lib.hid (show PB < v_4.heap.size by rw [e9, h9]; simp)
  have WPB := Lib.hid (show v_3.heap.size = PB from h9.symm)
  rw [← e9, ← h9]
  clear e9 h9
  have HF := Lib.hid (HF.out.later hb)
  have HO := Lib.hid ((hb.block _ (Array.getElem?_eq_some_iff.1 HO.out).1).trans HO.out)
  have HB := Lib.hid (below_later HB.out hb)
  have KB := Lib.hid (KB.out.later hb)
  have K1 := Lib.hid (K1.out.later hb)
  have K2 := Lib.hid (K2.out.later hb)
  clear hb
  go_wp2_with fail
  refine (CO.out _ PB _ (parts3 P0.out P1.out P2.out K1.out K2.out KB.out)).mono ?_
  rintro _ v_5 ⟨rfl, hb⟩
  have HF := Lib.hid (HF.out.later hb)
  have HO := Lib.hid ((hb.block _ (Array.getElem?_eq_some_iff.1 HO.out).1).trans HO.out)
  have HB := Lib.hid (below_later HB.out hb)
  have KB := Lib.hid (KB.out.later hb)
  have K1 := Lib.hid (K1.out.later hb)
  have K2 := Lib.hid (K2.out.later hb)
  clear hb
  clear P0 P1 P2 LPB WPB
  dsimp only
  go_step
  refine wpList_store_row rfl _ _ _ rfl OB _ _ _ HO.out rfl rfl (by rw [hszT]) hzs h1T ?_
  simp only [Act.put, pa, pb, pc]
  go_wp2_with fail
  obtain ⟨w9, e9⟩ : ∃ w9, w9 = v_5.setRow OB T := ⟨_, rfl⟩
  have hr9 : w9.heap[OB]? = some (.cells T 31 (0, 0)) := by rw [e9]; exact setRow_heap _ _ _ _ _ _ HO.out
  have hb9 : Below w.heap.size w w9 := by rw [e9]; exact below_setRow HB.out HOW.out _
  rw [← e9]
  exact bodyPost_ret (results_cell_row rfl _ w9 OB _ _ _ _ rfl hr9 Try.underlying31 rfl hszT) rfl ⟨rfl, hb9⟩
end Go.Proofs.Ytpoocnkflmimdaa
namespace Go.Proofs.Ytpoocnkflmimdaa
open Go.ChangeShapes Go.WideShapes Go.ChangeAt Go.RowKit
def zero11 : Array Value := #[.int .u8 0, .int .u8 0, .slice none 0 0, .int .u64 0, .int .u64 0, .int .u64 0, .int .u64 0, .int .u64 0, .int .u64 0, .int .u64 0, .int .u64 0]
theorem zero11_one : zero11.all (·.oneCell') = true := by unfold zero11; simp [Value.oneCell']
theorem FrAt.new0 (w : World) (fr tt : Nat) (bv : Value) (t : TypeId) : FrAt (w.alloc (.cells #[.int .u8 fr, .int .u8 tt, bv, .int .u64 0, .int .u64 0, .int .u64 0, .int .u64 0, .int .u64 0, .int .u64 0, .int .u64 0, .int .u64 0] t)) w.heap.size fr tt bv 0 0 := by
 have h := FrAt.new w fr tt bv 0 0 t
 simp only [show ((dgt W64 0 0 : Nat) : Int) = 0 by rw [dgt_zero]; rfl, show ((dgt W64 0 1 : Nat) : Int) = 0 by rw [dgt_zero]; rfl, show ((dgt W64 0 2 : Nat) : Int) = 0 by rw [dgt_zero]; rfl, show ((dgt W64 0 3 : Nat) : Int) = 0 by rw [dgt_zero]; rfl] at h
 exact h
theorem step_val {P : Program} {l : List Oper} {o : Oper} {a : Act} {w w' : World} {K : Act → World → Prop} {Q : Exit → Act → World → Prop} {v : Value} (hw : Region.wanted o (yielded l.toArray a.tmps) = true) (h : (execOp a.eval o).run P w = .ok (.value v) w') (k : K (a.put o.dst v) w') : if Region.wanted o (yielded l.toArray a.tmps) = true then Oper.wp P o a w K Q else K (a.put o.dst undef) w := by
 rw [if_pos hw]
 unfold Oper.wp
 rw [h]
 exact k
theorem numo_set4 {w : World} {b o x : Nat} (y : Nat) (h : NumO w b o x) : NumO ((((w.setCell ⟨b, o + 0, none⟩ (.int .u64 (dgt W64 y 0))).setCell ⟨b, o + 1, none⟩ (.int .u64 (dgt W64 y 1))).setCell ⟨b, o + 2, none⟩ (.int .u64 (dgt W64 y 2))).setCell ⟨b, o + 3, none⟩ (.int .u64 (dgt W64 y 3))) b o y := by
 intro j hj
 rcases (show j = 0 ∨ j = 1 ∨ j = 2 ∨ j = 3 by omega) with rfl | rfl | rfl | rfl
 ·rw [World.cell?_setCell_other _ _ _ _ (by intro h; injection h; omega), World.cell?_setCell_other _ _ _ _ (by intro h; injection h; omega), World.cell?_setCell_other _ _ _ _ (by intro h; injection h; omega)]
  exact World.cell?_setCell_same _ _ _ (h 0 (by decide))
 ·rw [World.cell?_setCell_other _ _ _ _ (by intro h; injection h; omega), World.cell?_setCell_other _ _ _ _ (by intro h; injection h; omega)]
  exact World.cell?_setCell_same _ _ _ (by rw [World.cell?_setCell_other _ _ _ _ (by intro h; injection h; omega)]; exact h 1 (by decide))
 ·rw [World.cell?_setCell_other _ _ _ _ (by intro h; injection h; omega)]
  exact World.cell?_setCell_same _ _ _ (by rw [World.cell?_setCell_other _ _ _ _ (by intro h; injection h; omega), World.cell?_setCell_other _ _ _ _ (by intro h; injection h; omega)]; exact h 2 (by decide))
 ·exact World.cell?_setCell_same _ _ _ (by rw [World.cell?_setCell_other _ _ _ _ (by intro h; injection h; omega), World.cell?_setCell_other _ _ _ _ (by intro h; injection h; omega), World.cell?_setCell_other _ _ _ _ (by intro h; injection h; omega)]; exact h 3 (by decide))
theorem numo_set4_ne {w : World} {b o p x : Nat} (v0 v1 v2 v3 : Value) (h : NumO w b o x) (hn : p + 4 ≤ o ∨ o + 4 ≤ p) : NumO ((((w.setCell ⟨b, p + 0, none⟩ v0).setCell ⟨b, p + 1, none⟩ v1).setCell ⟨b, p + 2, none⟩ v2).setCell ⟨b, p + 3, none⟩ v3) b o x := fun j hj => by
 rw [World.cell?_setCell_other _ _ _ _ (by intro h; injection h; omega), World.cell?_setCell_other _ _ _ _ (by intro h; injection h; omega), World.cell?_setCell_other _ _ _ _ (by intro h; injection h; omega), World.cell?_setCell_other _ _ _ _ (by intro h; injection h; omega)]
 exact h j hj
theorem cell_set4_ne {w : World} {b o p : Nat} {v : Value} (v0 v1 v2 v3 : Value) (h : w.cell? ⟨b, o, none⟩ = some v) (hn : o < p) : ((((w.setCell ⟨b, p + 0, none⟩ v0).setCell ⟨b, p + 1, none⟩ v1).setCell ⟨b, p + 2, none⟩ v2).setCell ⟨b, p + 3, none⟩ v3).cell? ⟨b, o, none⟩ = some v := by
 rw [World.cell?_setCell_other _ _ _ _ (by intro h; injection h; omega), World.cell?_setCell_other _ _ _ _ (by intro h; injection h; omega), World.cell?_setCell_other _ _ _ _ (by intro h; injection h; omega), World.cell?_setCell_other _ _ _ _ (by intro h; injection h; omega)]
 exact h
theorem FrAt.sign {w : World} {b fr tt : Nat} {bv : Value} {c s : Nat} (h : FrAt w b fr tt bv c s) (x y : Nat) : FrAt ((((((((w.setCell ⟨b, 3, none⟩ (.int .u64 (dgt W64 x 0))).setCell ⟨b, 4, none⟩ (.int .u64 (dgt W64 x 1))).setCell ⟨b, 5, none⟩ (.int .u64 (dgt W64 x 2))).setCell ⟨b, 6, none⟩ (.int .u64 (dgt W64 x 3))).setCell ⟨b, 7, none⟩ (.int .u64 (dgt W64 y 0))).setCell ⟨b, 8, none⟩ (.int .u64 (dgt W64 y 1))).setCell ⟨b, 9, none⟩ (.int .u64 (dgt W64 y 2))).setCell ⟨b, 10, none⟩ (.int .u64 (dgt W64 y 3))) b fr tt bv x y :=
 ⟨cell_set4_ne (p := 7) _ _ _ _ (cell_set4_ne (p := 3) _ _ _ _ h.fr (by omega)) (by omega), cell_set4_ne (p := 7) _ _ _ _ (cell_set4_ne (p := 3) _ _ _ _ h.tt (by omega)) (by omega), cell_set4_ne (p := 7) _ _ _ _ (cell_set4_ne (p := 3) _ _ _ _ h.bv (by omega)) (by omega),
  numo_set4_ne (p := 7) _ _ _ _ (numo_set4 x h.c) (by omega), numo_set4 y (numo_set4_ne (p := 3) _ _ _ _ h.s (by omega)), (h.free.set4 _ _ _ _ _ _ _ _).set4 _ _ _ _ _ _ _ _⟩
set_option linter.unusedSimpArgs false in
set_option linter.unusedVariables false in
set_option maxRecDepth 20000 in
set_option maxHeartbeats 4000000 in
theorem Seal_bad {gp gq gg gh n cap fr tt secret : Nat} {fa se : Int} {ao : Option Addr} {ks : List (Nat × Nat)} {bv : Value} {b : List Nat} (hx : ∀ k ∈ ks, k.1 < M256 ∧ k.2 < M256) (hq : gq < M256) (hm : gp < M256) (hgg : gg < M256) (hgh : gh < M256) (hn : n = ks.length) (hfa : -9223372036854775808 ≤ fa ∧ fa ≤ 9223372036854775807) (hse : -9223372036854775808 ≤ se ∧ se ≤ 9223372036854775807) (hn7 : n ≤ 7) (hok : settingB gp gq gg gh fa se n ks = true) (hfr : fr < 256) (hto : tt < 256) (hends : endsB n fr tt = false) (w : World) (hk : 0 < n → ∃ b o, ao = some ⟨b, o, none⟩ ∧ KeysAt w b o ks) (hb : KAt .u8 w bv b) :
  Calls Try.prog 8 #[setV gp gq gg gh fa se (.slice ao n cap), .int .u8 fr, .int .u8 tt, bv, numV secret] w fun e w' => e = .returned (.tuple #[.agg zero11, .int .i64 1]) ∧ Below w.heap.size w w' := by
 have CD := Lib.hid (fun (W : World) (hb : Below w.heap.size w W) => by have h9 := DSet_any (cap := cap) (ao := ao) hx hq hm hgg hgh hn hfa hse (by omega) W (fun h0 => by obtain ⟨b, o, h1, h2⟩ := hk h0; exact ⟨b, o, h1, h2.later hb⟩); rw [hok] at h9; unfold setV at h9; exact h9)
 have CE := Lib.hid (fun (W : World) => by have h9 := ends_any (gp := gp) (gq := gq) (gg := gg) (gh := gh) (cap := cap) (fa := fa) (se := se) (ao := ao) hn7 hfr hto W; rw [hends] at h9; unfold setV at h9; exact h9)
 obtain ⟨ab, cb, rfl, _⟩ := id hb
 obtain ⟨m, hmb⟩ : ∃ m, m = b.length := ⟨_, rfl⟩
 rw [← hmb] at hb ⊢
 clear hx hq hm hgg hgh hn hfa hse hn7 hok hfr hto hk hb hends hmb
 unfold setV numV words
 go_enter Try.func8, Try.ntmps8
 go_upto_region 1 with fail
 obtain ⟨v_0, e0⟩ : ∃ w9, w9 = w.alloc (.cells #[.int .u64 (dgt W64 gp 0), .int .u64 (dgt W64 gp 1), .int .u64 (dgt W64 gp 2), .int .u64 (dgt W64 gp 3), .int .u64 (dgt W64 gq 0), .int .u64 (dgt W64 gq 1), .int .u64 (dgt W64 gq 2), .int .u64 (dgt W64 gq 3), .int .u64 (dgt W64 gg 0), .int .u64 (dgt W64 gg 1), .int .u64 (dgt W64 gg 2), .int .u64 (dgt W64 gg 3), .int .u64 (dgt W64 gh 0), .int .u64 (dgt W64 gh 1), .int .u64 (dgt W64 gh 2), .int .u64 (dgt W64 gh 3), .int .i64 fa, .int .i64 se, .slice ao n cap] 34) := ⟨_, rfl⟩
 obtain ⟨v_1, e1⟩ : ∃ w9, w9 = v_0.alloc (.cells #[.int .u64 (dgt W64 secret 0), .int .u64 (dgt W64 secret 1), .int .u64 (dgt W64 secret 2), .int .u64 (dgt W64 secret 3)] 24) := ⟨_, rfl⟩
 obtain ⟨v_2, e2⟩ : ∃ w9, w9 = v_1.alloc (.cells #[.int .u8 0, .int .u8 0, .slice none 0 0, .int .u64 0, .int .u64 0, .int .u64 0, .int .u64 0, .int .u64 0, .int .u64 0, .int .u64 0, .int .u64 0] 50) := ⟨_, rfl⟩
 have s0 : v_0.heap.size = w.heap.size + 1 := by rw [e0]; simp
 have s1 : v_1.heap.size = w.heap.size + 1 + 1 := by rw [e1]; simp [s0]
 have b0 : Below w.heap.size w v_0 := by rw [e0]; exact (Below.refl _ _).alloc (Nat.le_refl _) _
 have b1 : Below v_0.heap.size v_0 v_1 := by rw [e1]; exact (Below.refl _ _).alloc (Nat.le_refl _) _
 have b2 : Below v_1.heap.size v_1 v_2 := by rw [e2]; exact (Below.refl _ _).alloc (Nat.le_refl _) _
 have f0 : SAt v_0 w.heap.size gp gq gg gh fa se (.slice ao n cap) := by rw [e0]; exact SAt.new _ _ _ _ _ _ _ _ _
 have f1 : NumAt v_1 (w.heap.size + 1) secret := by rw [← s0, e1]; exact NumAt.new _ _ _ _ rfl
 have f2 : v_2.heap[w.heap.size + 1 + 1]? = some (.cells zero11 50 (0, 0)) := by rw [← s1, e2]; exact heap_alloc_new _ _
 rw [← e0, ← e1, ← e2]
 obtain ⟨SB, hSB⟩ : ∃ b, b = w.heap.size := ⟨_, rfl⟩
 rw [← hSB] at f0 f1 f2 ⊢
 obtain ⟨XB, hXB⟩ : ∃ b, b = SB + 1 := ⟨_, rfl⟩
 rw [← hXB] at f1 f2 ⊢
 obtain ⟨RB, hRB⟩ : ∃ b, b = XB + 1 := ⟨_, rfl⟩
 rw [← hRB] at f2 ⊢
 have HRW := Lib.hid (show w.heap.size ≤ RB by omega)
 have HS := Lib.hid ((f0.later b1).later b2)
 have HX := Lib.hid (NumAt.later b2 f1)
 have HR := Lib.hid f2
 have HB := Lib.hid (below_later (below_later b0 b1) b2)
 clear e0 e1 e2 s0 s1 b0 b1 b2 f0 f1 f2 hSB hXB hRB
 refine wp_region_lit ?_
 refine wpList_val rfl (run_value_of (loadS9 HS.out)) ?_
 simp only [Act.put, pa, pb, pc]
 go_wp2_with fail
 refine (CD.out _ HB.out).mono ?_
 rintro _ v_3 ⟨rfl, hb⟩
 have HS := Lib.hid (HS.out.later hb)
 have HX := Lib.hid (NumAt.later hb HX.out)
 have HR := Lib.hid ((hb.block _ (Array.getElem?_eq_some_iff.1 HR.out).1).trans HR.out)
 have HB := Lib.hid (below_later HB.out hb)
 clear hb
 dsimp only
 go_step
 refine wpList_val (v := .bool false) rfl (by kernel_rfl) ?_
 simp only [Act.put, pa, pb, pc]
 refine wpList_val (v := .bool false) rfl (by kernel_rfl) ?_
 simp only [Act.put, pa, pb, pc]
 refine wpList_gval (by kernel_rfl) (run_value_of (loadS9 HS.out)) ?_
 simp only [Act.put, pa, pb, pc]
 go_wp2_with fail
 refine (CE.out _).mono ?_
 rintro _ v_4 ⟨rfl, hb⟩
 have HS := Lib.hid (HS.out.later hb)
 have HX := Lib.hid (NumAt.later hb HX.out)
 have HR := Lib.hid ((hb.block _ (Array.getElem?_eq_some_iff.1 HR.out).1).trans HR.out)
 have HB := Lib.hid (below_later HB.out hb)
 clear hb
 go_upto_region 2 with fail
 refine wp_region_lit ?_
 refine wpList_val (v := .agg zero11) rfl (by kernel_rfl) ?_
 simp only [Act.put, pa, pb, pc]
 refine wpList_store_row rfl _ _ _ rfl RB _ _ _ HR.out rfl rfl (by rw [info_fr]; rfl) rfl zero11_one ?_
 simp only [Act.put, pa, pb, pc]
 obtain ⟨w9, e9⟩ : ∃ w9, w9 = v_4.setRow RB zero11 := ⟨_, rfl⟩
 have hr9 : w9.heap[RB]? = some (.cells zero11 50 (0, 0)) := by rw [e9]; exact setRow_heap _ _ _ _ _ _ HR.out
 have hb9 : Below w.heap.size w w9 := by rw [e9]; exact below_setRow HB.out HRW.out _
 rw [← e9]
 clear e9
 have HR9 := Lib.hid hr9
 have HB9 := Lib.hid hb9
 clear hr9 hb9
 go_wp2_with fail
 refine bodyPost_ret (results_cell_tmp rfl _ w9 RB _ _ _ _ rfl HR9.out Try.underlying50 rfl (by rw [info_fr]; rfl) (.int .i64 1) rfl) rfl ⟨rfl, HB9.out⟩
set_option linter.unusedSimpArgs false in
set_option linter.unusedVariables false in
set_option maxRecDepth 20000 in
set_option maxHeartbeats 4000000 in
theorem Seal_good {gp gq gg gh n cap fr tt secret : Nat} {fa se : Int} {ao : Option Addr} {ks : List (Nat × Nat)} {bv : Value} {b : List Nat} (hx : ∀ k ∈ ks, k.1 < M256 ∧ k.2 < M256) (hq : gq < M256) (hm : gp < M256) (hgg : gg < M256) (hgh : gh < M256) (hn : n = ks.length) (hfa : -9223372036854775808 ≤ fa ∧ fa ≤ 9223372036854775807) (hse : -9223372036854775808 ≤ se ∧ se ≤ 9223372036854775807) (hn7 : n ≤ 7) (hok : settingB gp gq gg gh fa se n ks = true) (hfr : fr < 256) (hto : tt < 256) (hends : endsB n fr tt = true) (hby : Bytes b) (hbl : b.length ≤ 65536) (hmay : mayG gp gg) (hq1 : 1 < gq) (hs0 : secret ≠ 0) (hs : secret < gq) (w : World) (hk : 0 < n → ∃ b o, ao = some ⟨b, o, none⟩ ∧ KeysAt w b o ks) (hb : KAt .u8 w bv b) :
  Calls Try.prog 8 #[setV gp gq gg gh fa se (.slice ao n cap), .int .u8 fr, .int .u8 tt, bv, numV secret] w fun e w' => ∃ a2 c2, e = .returned (.tuple #[frameV fr tt (.slice a2 b.length c2) (signC gp gq gg secret (drawD gq secret (frameH fr tt b)) (frameH fr tt b)) (signS gp gq gg secret (drawD gq secret (frameH fr tt b)) (frameH fr tt b)), .int .i64 0]) ∧ Own w' w.heap.size (.slice a2 b.length c2) b ∧ Below w.heap.size w w' := by
 have CD := Lib.hid (fun (W : World) (hb : Below w.heap.size w W) => by have h9 := DSet_any (cap := cap) (ao := ao) hx hq hm hgg hgh hn hfa hse (by omega) W (fun h0 => by obtain ⟨b, o, h1, h2⟩ := hk h0; exact ⟨b, o, h1, h2.later hb⟩); rw [hok] at h9; unfold setV at h9; exact h9)
 have CE := Lib.hid (fun (W : World) => by have h9 := ends_any (gp := gp) (gq := gq) (gg := gg) (gh := gh) (cap := cap) (fa := fa) (se := se) (ao := ao) hn7 hfr hto W; rw [hends] at h9; unfold setV at h9; exact h9)
 have CC := Lib.hid (fun (W : World) (hb9 : Below w.heap.size w W) => Clone_any W (hb.later hb9) (by omega))
 have HH9 := Lib.hid (fun (W : World) (v : Value) (h : KAt .u8 W v b) => LHash_any (c := 0) (s := 0) hfr hto W h hby (by omega))
 obtain ⟨H, hH⟩ : ∃ H, H = frameH fr tt b := ⟨_, rfl⟩
 have hHl : H.length = 32 := by rw [hH]; exact frameH_length _ _ _
 have hHb : Bytes H := by rw [hH]; exact frameH_bytes _ _ _
 rw [← hH] at HH9 ⊢
 obtain ⟨C, hC⟩ : ∃ C, C = signC gp gq gg secret (drawD gq secret H) H := ⟨_, rfl⟩
 obtain ⟨G, hG⟩ : ∃ G, G = signS gp gq gg secret (drawD gq secret H) H := ⟨_, rfl⟩
 have CS := Lib.hid (fun (W : World) => by have h9 := LSign_any (gh := gh) (fa := fa) (se := se) (nodes := .slice ao n cap) hmay hm hgg hq1 hq hs0 hs hHl hHb W; rw [← hC, ← hG] at h9; unfold sigV setV numV words at h9; exact h9)
 rw [← hC, ← hG]
 obtain ⟨T, hT⟩ : ∃ T, T = (cellsK .u8 H).toArray := ⟨_, rfl⟩
 rw [← hT] at HH9 CS
 have CH := Lib.hid (fun (W : World) (v : Value) (h : KAt .u8 W v b) => by have h9 := HH9.out W v h; unfold frameV at h9; exact h9)
 clear HH9 hH hHl hHb hC hG hT
 obtain ⟨ab, cb, rfl, _⟩ := id hb
 obtain ⟨m, hmb⟩ : ∃ m, m = b.length := ⟨_, rfl⟩
 rw [← hmb] at CC hb ⊢
 have hmI : ¬ (65536 : Int) < (m : Int) := by omega
 have HMB := Lib.hid hmb
 clear hx hq hm hgg hgh hn hfa hse hn7 hok hfr hto hk hb hends hmb hby hbl hmay hq1 hs0 hs
 unfold setV numV words
 go_enter Try.func8, Try.ntmps8
 go_upto_region 1 with fail
 obtain ⟨v_0, e0⟩ : ∃ w9, w9 = w.alloc (.cells #[.int .u64 (dgt W64 gp 0), .int .u64 (dgt W64 gp 1), .int .u64 (dgt W64 gp 2), .int .u64 (dgt W64 gp 3), .int .u64 (dgt W64 gq 0), .int .u64 (dgt W64 gq 1), .int .u64 (dgt W64 gq 2), .int .u64 (dgt W64 gq 3), .int .u64 (dgt W64 gg 0), .int .u64 (dgt W64 gg 1), .int .u64 (dgt W64 gg 2), .int .u64 (dgt W64 gg 3), .int .u64 (dgt W64 gh 0), .int .u64 (dgt W64 gh 1), .int .u64 (dgt W64 gh 2), .int .u64 (dgt W64 gh 3), .int .i64 fa, .int .i64 se, .slice ao n cap] 34) := ⟨_, rfl⟩
 obtain ⟨v_1, e1⟩ : ∃ w9, w9 = v_0.alloc (.cells #[.int .u64 (dgt W64 secret 0), .int .u64 (dgt W64 secret 1), .int .u64 (dgt W64 secret 2), .int .u64 (dgt W64 secret 3)] 24) := ⟨_, rfl⟩
 obtain ⟨v_2, e2⟩ : ∃ w9, w9 = v_1.alloc (.cells #[.int .u8 0, .int .u8 0, .slice none 0 0, .int .u64 0, .int .u64 0, .int .u64 0, .int .u64 0, .int .u64 0, .int .u64 0, .int .u64 0, .int .u64 0] 50) := ⟨_, rfl⟩
 have s0 : v_0.heap.size = w.heap.size + 1 := by rw [e0]; simp
 have s1 : v_1.heap.size = w.heap.size + 1 + 1 := by rw [e1]; simp [s0]
 have b0 : Below w.heap.size w v_0 := by rw [e0]; exact (Below.refl _ _).alloc (Nat.le_refl _) _
 have b1 : Below v_0.heap.size v_0 v_1 := by rw [e1]; exact (Below.refl _ _).alloc (Nat.le_refl _) _
 have b2 : Below v_1.heap.size v_1 v_2 := by rw [e2]; exact (Below.refl _ _).alloc (Nat.le_refl _) _
 have f0 : SAt v_0 w.heap.size gp gq gg gh fa se (.slice ao n cap) := by rw [e0]; exact SAt.new _ _ _ _ _ _ _ _ _
 have f1 : NumAt v_1 (w.heap.size + 1) secret := by rw [← s0, e1]; exact NumAt.new _ _ _ _ rfl
 have f2 : v_2.heap[w.heap.size + 1 + 1]? = some (.cells zero11 50 (0, 0)) := by rw [← s1, e2]; exact heap_alloc_new _ _
 rw [← e0, ← e1, ← e2]
 obtain ⟨SB, hSB⟩ : ∃ b, b = w.heap.size := ⟨_, rfl⟩
 rw [← hSB] at f0 f1 f2 ⊢
 obtain ⟨XB, hXB⟩ : ∃ b, b = SB + 1 := ⟨_, rfl⟩
 rw [← hXB] at f1 f2 ⊢
 obtain ⟨RB, hRB⟩ : ∃ b, b = XB + 1 := ⟨_, rfl⟩
 rw [← hRB] at f2 ⊢
 have HRW := Lib.hid (show w.heap.size ≤ RB by omega)
 have HS := Lib.hid ((f0.later b1).later b2)
 have HX := Lib.hid (NumAt.later b2 f1)
 have HR := Lib.hid f2
 have HB := Lib.hid (below_later (below_later b0 b1) b2)
 clear e0 e1 e2 s0 s1 b0 b1 b2 f0 f1 f2 hSB hXB hRB
 refine wp_region_lit ?_
 refine wpList_val rfl (run_value_of (loadS9 HS.out)) ?_
 simp only [Act.put, pa, pb, pc]
 go_wp2_with fail
 refine (CD.out _ HB.out).mono ?_
 rintro _ v_3 ⟨rfl, hb⟩
 have HS := Lib.hid (HS.out.later hb)
 have HX := Lib.hid (NumAt.later hb HX.out)
 have HR := Lib.hid ((hb.block _ (Array.getElem?_eq_some_iff.1 HR.out).1).trans HR.out)
 have HB := Lib.hid (below_later HB.out hb)
 clear hb
 dsimp only
 go_step
 refine wpList_val (v := .bool false) rfl (by kernel_rfl) ?_
 simp only [Act.put, pa, pb, pc]
 refine wpList_val (v := .bool false) rfl (by kernel_rfl) ?_
 simp only [Act.put, pa, pb, pc]
 refine wpList_gval (by kernel_rfl) (run_value_of (loadS9 HS.out)) ?_
 simp only [Act.put, pa, pb, pc]
 go_wp2_with fail
 refine (CE.out _).mono ?_
 rintro _ v_4 ⟨rfl, hb⟩
 have HS := Lib.hid (HS.out.later hb)
 have HX := Lib.hid (NumAt.later hb HX.out)
 have HR := Lib.hid ((hb.block _ (Array.getElem?_eq_some_iff.1 HR.out).1).trans HR.out)
 have HB := Lib.hid (below_later HB.out hb)
 clear hb
 go_upto_region 5 with fail
 have S4 := Lib.hid HS.out.lt
 have X4 := Lib.hid (NumAt.lt HX.out)
 have R4 := Lib.hid (Array.getElem?_eq_some_iff.1 HR.out).1
 have W4 := Lib.hid HB.out.size
 go_wp2_with fail
 refine (CC.out _ HB.out).mono ?_
 rintro _ v_5 ⟨v1, rfl, ho, hb⟩
 obtain ⟨a1, c1, rfl, _⟩ := id ho.at_
 rw [← HMB.out] at ho ⊢
 have HO := Lib.hid ho
 have V45 := Lib.hid hb.size
 have HS := Lib.hid (HS.out.later hb)
 have HX := Lib.hid (NumAt.later hb HX.out)
 have HR := Lib.hid ((hb.block _ (Array.getElem?_eq_some_iff.1 HR.out).1).trans HR.out)
 have HB := Lib.hid (below_later HB.out hb)
 clear hb
 clear ho
 go_wp2_with fail
 refine (Clip_any _ HO.out).mono ?_
 rintro _ _ ⟨v2, rfl, ho, rfl⟩
 obtain ⟨a2, c2, rfl, _⟩ := id ho.at_
 rw [← HMB.out] at ho ⊢
 have HO := Lib.hid ho
 clear ho
 have HOB := Lib.hid (show ∀ g, (Value.slice a2 m c2).ownBlock = some g → v_4.heap.size ≤ g ∧ g < v_5.heap.size from fun g hg => OwnV.lt HO.out g hg)
 have HR4 := Lib.hid (show RB < v_4.heap.size from R4.out)
 go_upto_region 6 with fail
 obtain ⟨v_6, e9⟩ : ∃ w9, w9 = v_5.alloc (.cells #[.int .u8 fr, .int .u8 tt, .slice a2 m c2, .int .u64 0, .int .u64 0, .int .u64 0, .int .u64 0, .int .u64 0, .int .u64 0, .int .u64 0, .int .u64 0] 50) := ⟨_, rfl⟩
 obtain ⟨FB, h9⟩ : ∃ b, b = v_5.heap.size := ⟨_, rfl⟩
 have hb : Below v_5.heap.size v_5 v_6 := by rw [e9]; exact (Below.refl _ _).alloc (Nat.le_refl _) _
 have HF := Lib.hid (show FrAt v_6 FB fr tt (.slice a2 m c2) 0 0 by rw [e9, h9]; exact FrAt.new0 _ _ _ _ _)
 have LFB := Lib.hid (show FB < v_6.heap.size by rw [e9, h9]; simp)
 have WFB := Lib.hid (show v_5.heap.size = FB from h9.symm)
 rw [← e9, ← h9]
 clear e9 h9
 have HS := Lib.hid (HS.out.later hb)
 have HX := Lib.hid (NumAt.later hb HX.out)
 have HR := Lib.hid ((hb.block _ (Array.getElem?_eq_some_iff.1 HR.out).1).trans HR.out)
 have HB := Lib.hid (below_later HB.out hb)
 have HO := Lib.hid (HO.out.later hb)
 clear hb
 have NF := Lib.hid (show SB < FB ∧ XB < FB ∧ RB < FB ∧ w.heap.size ≤ FB by have a1 := S4.out; have a2 := X4.out; have a3 := R4.out; have a4 := WFB.out; have a5 := V45.out; have a6 := W4.out; omega)
 clear LFB
 go_upto_region 7 with fail
 refine wp_region_tree (.take 0 (.take 3 (.step 1 (.step 2 (.step 4 (.take 5 (.take 6 (.take 7 (.take 8 (.step 9 (.take 10 .done))))))))))) (fun w8 => SAt w8 SB gp gq gg gh fa se (.slice ao n cap) ∧ NumAt w8 XB secret) (by kernel_rfl) (by kernel_rfl) (fun _ _ _ _ _ h => h) (⟨HS.out.later ((Below.refl _ _).drew), NumAt.later ((Below.refl _ _).drew) HX.out⟩) (fun hHeld => ?_)
 obtain ⟨x1, e1⟩ : ∃ y9, y9 = v_6.drew := ⟨_, rfl⟩
 rw [← e1]
 have hb : Below v_6.heap.size v_6 x1 := by rw [e1]; exact (Below.refl _ _).drew
 have HS := Lib.hid (HS.out.later hb)
 have HX := Lib.hid (NumAt.later hb HX.out)
 have HR := Lib.hid ((hb.block _ (Array.getElem?_eq_some_iff.1 HR.out).1).trans HR.out)
 have HB := Lib.hid (below_later HB.out hb)
 have HO := Lib.hid (HO.out.later hb)
 have HF := Lib.hid (HF.out.later hb)
 clear hb e1
 refine WT.take rfl (Or.inl ⟨by rfl, fun w8 hSw => run_value_of (loadS9 hSw.1)⟩) ?_
 try simp only [Act.put, pa, pb, pc]
 refine WT.take rfl (Or.inl ⟨by rfl, fun w8 hSw => run_value_of (loadN hSw.2)⟩) ?_
 try simp only [Act.put, pa, pb, pc]
 refine WT.step rfl (fun K hK => ?_)
 refine step_val (by kernel_rfl) (run_value_of (loadFr HF.out)) ?_
 refine hK.out _ _ (⟨HS.out, HX.out⟩) (fun hHeld => ?_)
 clear hK K
 try simp only [Act.put, pa, pb, pc]
 refine WT.step rfl (fun K hK => ?_)
 go_simp
 refine (CH.out _ _ HO.out.at_).mono ?_
 rintro _ x3 ⟨rfl, hb⟩
 have HS := Lib.hid (HS.out.later hb)
 have HX := Lib.hid (NumAt.later hb HX.out)
 have HR := Lib.hid ((hb.block _ (Array.getElem?_eq_some_iff.1 HR.out).1).trans HR.out)
 have HB := Lib.hid (below_later HB.out hb)
 have HO := Lib.hid (HO.out.later hb)
 have HF := Lib.hid (HF.out.later hb)
 clear hb
 refine hK.out _ _ (⟨HS.out, HX.out⟩) (fun hHeld => ?_)
 clear hK K
 try simp only [Act.put, pa, pb, pc]
 refine WT.step rfl (fun K hK => ?_)
 go_simp
 refine (CS.out _).mono ?_
 rintro _ x4 ⟨rfl, hb⟩
 have HS := Lib.hid (HS.out.later hb)
 have HX := Lib.hid (NumAt.later hb HX.out)
 have HR := Lib.hid ((hb.block _ (Array.getElem?_eq_some_iff.1 HR.out).1).trans HR.out)
 have HB := Lib.hid (below_later HB.out hb)
 have HO := Lib.hid (HO.out.later hb)
 have HF := Lib.hid (HF.out.later hb)
 clear hb
 refine hK.out _ _ (⟨HS.out, HX.out⟩) (fun hHeld => ?_)
 clear hK K
 try simp only [Act.put, pa, pb, pc]
 refine WT.take (v := ?_) rfl (Or.inl ⟨by rfl, ?_⟩) ?_
 rotate_left
 ·intro w8 hSw
  (try dsimp only at hSw)
  go_simp
  any_goals with_reducible rfl
 try simp only [Act.put, pa, pb, pc]
 refine WT.take (v := ?_) rfl (Or.inl ⟨by rfl, ?_⟩) ?_
 rotate_left
 ·intro w8 hSw
  (try dsimp only at hSw)
  go_simp
  any_goals with_reducible rfl
 try simp only [Act.put, pa, pb, pc]
 refine WT.take (v := ?_) rfl (Or.inl ⟨by rfl, ?_⟩) ?_
 rotate_left
 ·intro w8 hSw
  (try dsimp only at hSw)
  go_simp
  any_goals with_reducible rfl
 try simp only [Act.put, pa, pb, pc]
 refine WT.take (v := ?_) rfl (Or.inl ⟨by rfl, ?_⟩) ?_
 rotate_left
 ·intro w8 hSw
  (try dsimp only at hSw)
  go_simp
  any_goals with_reducible rfl
 try simp only [Act.put, pa, pb, pc]
 refine WT.step rfl (fun K hK => ?_)
 have y3 := HF.out.c 0 (by decide)
 have y4 := HF.out.c 1 (by decide)
 have y5 := HF.out.c 2 (by decide)
 have y6 := HF.out.c 3 (by decide)
 have y7 := HF.out.s 0 (by decide)
 have y8 := HF.out.s 1 (by decide)
 have y9 := HF.out.s 2 (by decide)
 have y10 := HF.out.s 3 (by decide)
 have z3 := HF.out.free 3 (by decide)
 have z4 := HF.out.free 4 (by decide)
 have z5 := HF.out.free 5 (by decide)
 have z6 := HF.out.free 6 (by decide)
 have z7 := HF.out.free 7 (by decide)
 have z8 := HF.out.free 8 (by decide)
 have z9 := HF.out.free 9 (by decide)
 have z10 := HF.out.free 10 (by decide)
 simp only [Nat.reduceAdd] at y3 y4 y5 y6 y7 y8 y9 y10
 go_simp
 clear y3 z3 y4 z4 y5 z5 y6 z6 y7 z7 y8 z8 y9 z9 y10 z10
 obtain ⟨x5, e9⟩ : ∃ y9, y9 = (((((((x4.setCell ⟨FB, 3, none⟩ (.int .u64 (dgt W64 C 0))).setCell ⟨FB, 4, none⟩ (.int .u64 (dgt W64 C 1))).setCell ⟨FB, 5, none⟩ (.int .u64 (dgt W64 C 2))).setCell ⟨FB, 6, none⟩ (.int .u64 (dgt W64 C 3))).setCell ⟨FB, 7, none⟩ (.int .u64 (dgt W64 G 0))).setCell ⟨FB, 8, none⟩ (.int .u64 (dgt W64 G 1))).setCell ⟨FB, 9, none⟩ (.int .u64 (dgt W64 G 2))).setCell ⟨FB, 10, none⟩ (.int .u64 (dgt W64 G 3)) := ⟨_, rfl⟩
 have hgs : x4.grownBy x5 (some FB) := by rw [e9]; exact (only_setS (only_setS (only_setS (only_setS (only_setS (only_setS (only_setS (only_setS (World.grownBy.refl x4 (some FB)) 3 _) 4 _) 5 _) 6 _) 7 _) 8 _) 9 _) 10 _)
 have HF := Lib.hid (show FrAt x5 FB fr tt (.slice a2 m c2) C G by rw [e9]; exact HF.out.sign C G)
 rw [← e9]
 clear e9
 have HS := Lib.hid (HS.out.keep hgs (fun e => by injection e with e; have := NF.out; omega))
 have HX := Lib.hid (num_keepR HX.out hgs (fun e => by injection e with e; have := NF.out; omega))
 have HR := Lib.hid (row_keepR HR.out hgs (fun e => by injection e with e; have := NF.out; omega))
 have HO := Lib.hid (HO.out.kept hgs (.inr (fun e => by have h7 := HOB.out _ e; have h8 := WFB.out; omega)))
 have HB := Lib.hid (HB.out.grown hgs HB.out.size (fun q hq => by injection hq with hq; have := NF.out; omega))
 clear hgs
 refine hK.out _ _ (⟨HS.out, HX.out⟩) (fun hHeld => ?_)
 clear hK K
 try simp only [Act.put, pa, pb, pc]
 refine WT.take (v := ?_) rfl (Or.inl ⟨by rfl, ?_⟩) ?_
 rotate_left
 ·intro w8 hSw
  (try dsimp only at hSw)
  go_simp
  any_goals with_reducible rfl
 try simp only [Act.put, pa, pb, pc]
 refine WT.done ?_
 clear hHeld
 go_upto_region 10 with fail
 refine wp_region_lit ?_
 refine wpList_val rfl (run_value_of (loadFr HF.out)) ?_
 simp only [Act.put, pa, pb, pc]
 refine wpList_store_row rfl _ _ _ rfl RB _ _ _ HR.out rfl rfl (by rw [info_fr]; rfl) rfl (by simp [Value.oneCell']) ?_
 simp only [Act.put, pa, pb, pc]
 obtain ⟨T9, hT9⟩ : ∃ T9 : Array Value, T9 = #[.int .u8 fr, .int .u8 tt, .slice a2 m c2, .int .u64 (dgt W64 C 0), .int .u64 (dgt W64 C 1), .int .u64 (dgt W64 C 2), .int .u64 (dgt W64 C 3), .int .u64 (dgt W64 G 0), .int .u64 (dgt W64 G 1), .int .u64 (dgt W64 G 2), .int .u64 (dgt W64 G 3)] := ⟨_, rfl⟩
 have hs9 : (Try.prog.info? 50).map (·.size) = some T9.size := by rw [info_fr, hT9]; rfl
 obtain ⟨w9, e9⟩ : ∃ w9, w9 = x5.setRow RB #[.int .u8 fr, .int .u8 tt, .slice a2 m c2, .int .u64 (dgt W64 C 0), .int .u64 (dgt W64 C 1), .int .u64 (dgt W64 C 2), .int .u64 (dgt W64 C 3), .int .u64 (dgt W64 G 0), .int .u64 (dgt W64 G 1), .int .u64 (dgt W64 G 2), .int .u64 (dgt W64 G 3)] := ⟨_, rfl⟩
 have hr9 : w9.heap[RB]? = some (.cells T9 50 (0, 0)) := by rw [e9, hT9]; exact setRow_heap _ _ _ _ _ _ HR.out
 have hb9 : Below w.heap.size w w9 := by rw [e9]; exact below_setRow HB.out HRW.out _
 have ho9 : Own w9 v_4.heap.size (.slice a2 m c2) b := by rw [e9]; exact HO.out.kept (grown_setRow _ _ _) (.inr (fun e => by have h7 := HOB.out _ e; have h8 := HR4.out; omega))
 rw [← e9]
 clear e9
 have HR9 := Lib.hid hr9
 have HB9 := Lib.hid hb9
 have HO9 := Lib.hid ho9
 have HT9 := Lib.hid hT9
 clear hr9 hb9 ho9 hT9
 go_wp2_with fail
 refine bodyPost_ret (results_cell_tmp rfl _ w9 RB _ _ _ _ rfl HR9.out Try.underlying50 rfl hs9 (.int .i64 0) rfl) rfl ⟨a2, c2, by rw [HT9.out]; rfl, HO9.out.base W4.out, HB9.out⟩
end Go.Proofs.Ytpoocnkflmimdaa
namespace Go.Proofs.Ytpoocnkflmimdaa
open Go.ChangeShapes Go.WideShapes Go.ChangeAt Go.RowKit
theorem lawset_any {gp gq gg gh lg n cap : Nat} {fa se : Int} {ao : Option Addr} {sk : List (Nat × Nat)} (hgp : gp < M256) (hgq : gq < M256) (hgg : gg < M256) (hlg : lg < M256) (hfa : -9223372036854775808 ≤ fa ∧ fa ≤ 9223372036854775807) (hse : -9223372036854775808 ≤ se ∧ se ≤ 9223372036854775807) (hsk : ∀ k ∈ sk, k.1 < M256 ∧ k.2 < M256) (hn : n = sk.length) (hcap : n ≤ cap) (hcm : cap ≤ maxLen) (w : World) (hk : 0 < n → ∃ b o, ao = some ⟨b, o, none⟩ ∧ KeysAt w b o sk) :
  Calls Try.prog 5 #[castV gp gq gg gh lg fa se (.slice ao n cap)] w fun e w' => ∃ (p q g h : Nat) (f s : Int) (a : Option Addr) (n9 c9 : Nat) (ok : Bool), e = .returned (.tuple #[setV p q g h f s (.slice a n9 c9), .bool ok]) ∧ (ok = true → p = gp ∧ q = gq ∧ g = gg ∧ h = gg ^ lg % gp ∧ f = fa ∧ s = se ∧ n9 = n ∧ SetOk w' gp gq gg lg n fa se sk a) ∧ Below w.heap.size w w' := by
 by_cases hm : mayG gp gg
 ·by_cases h0 : lg = 0
  ·exact lawset_log hm h0 hgp hgq hgg hlg hfa hse hsk hn hcap hcm w hk
  ·by_cases h1 : 7 < n
   ·exact lawset_many hm h0 h1 hgp hgq hgg hlg hfa hse hsk hn hcap hcm w hk
   ·exact lawset_main hm h0 (by omega) hgp hgq hgg hlg hfa hse hsk hn hcap hcm w hk
 ·exact lawset_nomay hm hgp hgq hgg hlg hfa hse hsk hn hcap hcm w hk
theorem KeysAt.num {w : World} {b o i : Nat} {ks : List (Nat × Nat)} {k : Nat × Nat} (h : KeysAt w b o ks) (hk : ks[i]? = some k) : NumO w b (o + i * 8) k.1 := fun j hj => (h i k hk).1 j hj
end Go.Proofs.Ytpoocnkflmimdaa
