/- Layer 15 (dealings) -/
import Derived.Test.YtcaeaejefdhloaaGreatZWG34
set_option linter.unusedSimpArgs false
set_option linter.unusedVariables false
set_option maxHeartbeats 4000000
set_option maxRecDepth 20000
namespace Go.Proofs.YtcaeaejefdhloaaGreat
open Go.ChangeShapes Go.WideShapes Go.ChangeAt Go.RowKit
def sigV (c s : Nat) : Value := .agg #[.int .u64 (jf jd c 0), .int .u64 (jf jd c 1), .int .u64 (jf jd c 2), .int .u64 (jf jd c 3), .int .u64 (jf jd s 0), .int .u64 (jf jd s 1), .int .u64 (jf jd s 2), .int .u64 (jf jd s 3)]
theorem nums2 {w : World} {b x y : Nat} {t : TypeId} (h : w.heap[b]? = some (.cells #[.int .u64 (jf jd x 0), .int .u64 (jf jd x 1), .int .u64 (jf jd x 2), .int .u64 (jf jd x 3), .int .u64 (jf jd y 0), .int .u64 (jf jd y 1), .int .u64 (jf jd y 2), .int .u64 (jf jd y 3)] t (0, 0))) : NumsAt w b 0 [x, y] := fun i z hz j hj => by
 have hl := (List.getElem?_eq_some_iff.1 hz).1; rw [cell_of_row _ _ _ _ _ _ h]
 rcases (show i = 0 ∨ i = 1 by simp at hl; omega) with rfl | rfl
 ·simp at hz
  subst hz
  rcases (show j = 0 ∨ j = 1 ∨ j = 2 ∨ j = 3 by omega) with rfl | rfl | rfl | rfl <;> rfl
 ·simp at hz
  subst hz
  rcases (show j = 0 ∨ j = 1 ∨ j = 2 ∨ j = 3 by omega) with rfl | rfl | rfl | rfl <;> rfl
theorem num_keep {w w' : World} {b x c : Nat} (h : NumAt w b x) (hg : w.grownBy w' (some c)) (hn : b ≠ c) : NumAt w' b x := fun j hj => hg.cell (h j hj) (fun e => hn (by injection e))
theorem grp_keep {w w' : World} {b c gp gq gg gh : Nat} (h : GrpAt w b gp gq gg gh) (hg : w.grownBy w' (some c)) (hn : b ≠ c) : GrpAt w' b gp gq gg gh :=
 ⟨fun j hj => hg.cell (h.1 j hj) (fun e => hn (by injection e)), fun j hj => hg.cell (h.2.1 j hj) (fun e => hn (by injection e)), fun j hj => hg.cell (h.2.2.1 j hj) (fun e => hn (by injection e)), fun j hj => hg.cell (h.2.2.2 j hj) (fun e => hn (by injection e))⟩
theorem row_keep {w w' : World} {b c : Nat} {o : Obj} (h : w.heap[b]? = some o) (hg : w.grownBy w' (some c)) (hn : b ≠ c) : w'.heap[b]? = some o := (hg.block b (Array.getElem?_eq_some_iff.1 h).1 (fun e => hn (by injection e))).trans h
def qd (gp gq gg gh : Nat) (fa se : Int) (nodes : Value) : Value := .agg #[.int .u64 (jf jd gp 0), .int .u64 (jf jd gp 1), .int .u64 (jf jd gp 2), .int .u64 (jf jd gp 3), .int .u64 (jf jd gq 0), .int .u64 (jf jd gq 1), .int .u64 (jf jd gq 2), .int .u64 (jf jd gq 3), .int .u64 (jf jd gg 0), .int .u64 (jf jd gg 1), .int .u64 (jf jd gg 2), .int .u64 (jf jd gg 3), .int .u64 (jf jd gh 0), .int .u64 (jf jd gh 1), .int .u64 (jf jd gh 2), .int .u64 (jf jd gh 3), .int .i64 fa, .int .i64 se, nodes]
theorem grp_cells {w : World} {b gp gq gg gh : Nat} (h : ∀ (j : Nat) v, [.int .u64 (jf jd gp 0), .int .u64 (jf jd gp 1), .int .u64 (jf jd gp 2), .int .u64 (jf jd gp 3), .int .u64 (jf jd gq 0), .int .u64 (jf jd gq 1), .int .u64 (jf jd gq 2), .int .u64 (jf jd gq 3), .int .u64 (jf jd gg 0), .int .u64 (jf jd gg 1), .int .u64 (jf jd gg 2), .int .u64 (jf jd gg 3), .int .u64 (jf jd gh 0), .int .u64 (jf jd gh 1), .int .u64 (jf jd gh 2), .int .u64 (jf jd gh 3)][j]? = some v → w.cell? ⟨b, j, none⟩ = some v) : GrpAt w b gp gq gg gh :=
 ⟨fun j hj => by rcases (show j = 0 ∨ j = 1 ∨ j = 2 ∨ j = 3 by omega) with rfl | rfl | rfl | rfl <;> exact h _ _ rfl, fun j hj => by rcases (show j = 0 ∨ j = 1 ∨ j = 2 ∨ j = 3 by omega) with rfl | rfl | rfl | rfl <;> exact h _ _ rfl, fun j hj => by rcases (show j = 0 ∨ j = 1 ∨ j = 2 ∨ j = 3 by omega) with rfl | rfl | rfl | rfl <;> exact h _ _ rfl, fun j hj => by rcases (show j = 0 ∨ j = 1 ∨ j = 2 ∨ j = 3 by omega) with rfl | rfl | rfl | rfl <;> exact h _ _ rfl⟩
def qy (fr tt : Nat) (bv : Value) (c s : Nat) : Value := .agg #[.int .u8 fr, .int .u8 tt, bv, .int .u64 (jf jd c 0), .int .u64 (jf jd c 1), .int .u64 (jf jd c 2), .int .u64 (jf jd c 3), .int .u64 (jf jd s 0), .int .u64 (jf jd s 1), .int .u64 (jf jd s 2), .int .u64 (jf jd s 3)]
def frameB : List Nat := qs ⟨#[102, 114, 97, 109, 101]⟩
def qJ (fr tt : Nat) (b : List Nat) : List Nat := qq (jW frameB [[fr], [tt], b])
theorem zO (fr tt : Nat) (b : List Nat) : (qJ fr tt b).length = 32 := jR _
theorem Zl (fr tt : Nat) (b : List Nat) : jO (qJ fr tt b) := zP _
theorem Zh {w : World} {b x : Nat} (h : w.cell? ⟨b, 0, none⟩ = some (.int .u8 x)) : KAt .u8 w (.slice (some ⟨b, 0, none⟩) 1 1) [x] :=
 ⟨_, 1, rfl, Nat.le_refl _, by decide, (fun h => by cases h), fun _ => ⟨b, 0, rfl, fun i y hy => by
  have hl := (List.getElem?_eq_some_iff.1 hy).1; obtain rfl : i = 0 := by simp at hl; exact hl
  simp at hy
  subst hy
  exact h⟩⟩
structure FrAt (w : World) (b fr tt : Nat) (bv : Value) (c s : Nat) : Prop where
 fr : w.cell? ⟨b, 0, none⟩ = some (.int .u8 fr)
 tt : w.cell? ⟨b, 1, none⟩ = some (.int .u8 tt)
 bv : w.cell? ⟨b, 2, none⟩ = some bv
 c : NumO w b 3 c
 s : NumO w b 7 s
 free : FreeN w b 11
theorem FrAt.lt {w : World} {b fr tt : Nat} {bv : Value} {c s : Nat} (h : FrAt w b fr tt bv c s) : b < w.heap.size := h.c.lt
theorem FrAt.later {w w' : World} {b fr tt : Nat} {bv : Value} {c s : Nat} (h : FrAt w b fr tt bv c s) (hb : Below w.heap.size w w') : FrAt w' b fr tt bv c s :=
 ⟨jm h.fr hb, jm h.tt hb, jm h.bv hb, NumO.later hb h.c, NumO.later hb h.s, h.free.later hb h.lt⟩
theorem FrAt.new (w : World) (fr tt : Nat) (bv : Value) (c s : Nat) (t : TypeId) : FrAt (w.alloc (.cells #[.int .u8 fr, .int .u8 tt, bv, .int .u64 (jf jd c 0), .int .u64 (jf jd c 1), .int .u64 (jf jd c 2), .int .u64 (jf jd c 3), .int .u64 (jf jd s 0), .int .u64 (jf jd s 1), .int .u64 (jf jd s 2), .int .u64 (jf jd s 3)] t)) w.heap.size fr tt bv c s :=
 ⟨by rw [cell_of_row _ _ _ _ _ _ (heap_alloc_new _ _)]; rfl, by rw [cell_of_row _ _ _ _ _ _ (heap_alloc_new _ _)]; rfl, by rw [cell_of_row _ _ _ _ _ _ (heap_alloc_new _ _)]; rfl,
  fun j hj => by rw [cell_of_row _ _ _ _ _ _ (heap_alloc_new _ _)]; rcases (show j = 0 ∨ j = 1 ∨ j = 2 ∨ j = 3 by omega) with rfl | rfl | rfl | rfl <;> rfl,
  fun j hj => by rw [cell_of_row _ _ _ _ _ _ (heap_alloc_new _ _)]; rcases (show j = 0 ∨ j = 1 ∨ j = 2 ∨ j = 3 by omega) with rfl | rfl | rfl | rfl <;> rfl, FreeN.new _ _ _ _⟩
theorem info_fr : (Tryz.prog.info? 34).map (·.size) = some 11 := by kernel_rfl
theorem QN {w : World} {b fr tt : Nat} {bv : Value} {c s : Nat} (h : FrAt w b fr tt bv c s) : (Instr.loadAt 34 (.pointer (some ⟨b, 0, none⟩))).run Tryz.prog w = .ok (.agg #[.int .u8 fr, .int .u8 tt, bv, .int .u64 (jf jd c 0), .int .u64 (jf jd c 1), .int .u64 (jf jd c 2), .int .u64 (jf jd c 3), .int .u64 (jf jd s 0), .int .u64 (jf jd s 1), .int .u64 (jf jd s 2), .int .u64 (jf jd s 3)]) w := by
 have y0 := h.fr; have y1 := h.tt; have y2 := h.bv; have l0 := h.c 0 (by decide); have l1 := h.c 1 (by decide); have l2 := h.c 2 (by decide); have l3 := h.c 3 (by decide); have l4 := h.s 0 (by decide); have l5 := h.s 1 (by decide); have l6 := h.s 2 (by decide); have l7 := h.s 3 (by decide); simp only [Nat.reduceAdd] at l0 l1 l2 l3 l4 l5 l6 l7
 exact run_loadAt_mid (P := Tryz.prog) w b 0 34 [.int .u8 fr, .int .u8 tt, bv, .int .u64 (jf jd c 0), .int .u64 (jf jd c 1), .int .u64 (jf jd c 2), .int .u64 (jf jd c 3), .int .u64 (jf jd s 0), .int .u64 (jf jd s 1), .int .u64 (jf jd s 2), .int .u64 (jf jd s 3)] _ (by
  intro j v hj; have hl := (List.getElem?_eq_some_iff.1 hj).1; simp only [List.length_cons, List.length_nil] at hl; rw [Nat.zero_add]
  rcases (show j = 0 ∨ j = 1 ∨ j = 2 ∨ j = 3 ∨ j = 4 ∨ j = 5 ∨ j = 6 ∨ j = 7 ∨ j = 8 ∨ j = 9 ∨ j = 10 by omega) with rfl | rfl | rfl | rfl | rfl | rfl | rfl | rfl | rfl | rfl | rfl <;> (simp at hj; subst hj; assumption)) Tryz.underlying34 rfl info_fr
theorem zF {w : World} {b o : Nat} {v : Value} (h : w.cell? ⟨b, o, none⟩ = some v) : (Instr.loadAt 5 (.pointer (some ⟨b, o, none⟩))).run Tryz.prog w = .ok v w := by
 simp [go_sem, h]
theorem loadBs {w : World} {b o : Nat} {v : Value} (h : w.cell? ⟨b, o, none⟩ = some v) : (Instr.loadAt 30 (.pointer (some ⟨b, o, none⟩))).run Tryz.prog w = .ok v w := by
 simp [go_sem, h]
def qR (n fr tt : Nat) : Bool := if fr < 1 then false else if tt < 1 then false else if n < fr then false else if n < tt then false else if fr = tt then false else true
theorem ends_0 {gp gq gg gh n cap fr tt : Nat} {fa se : Int} {ao : Option Addr}  (p : fr < 1) (hn : n ≤ 7) (hfr : fr < 256) (hto : tt < 256) (w : World) :
  Calls Tryz.prog 17 #[qd gp gq gg gh fa se (.slice ao n cap), .int .u8 fr, .int .u8 tt] w fun e w' => e = .returned (.bool (qR n fr tt)) ∧ Below w.heap.size w w' := by
 have hv : qR n fr tt = false := by unfold qR; rw [if_pos p]
 rw [hv]; have k1 : ¬ (1 : Int) ≤ (fr : Int) := by omega
 have g1 : (fr : Int) < 256 := by omega
 have g2 : (tt : Int) < 256 := by omega
 have g3 : (0 : Int) ≤ (fr : Int) := by omega
 have g4 : (0 : Int) ≤ (tt : Int) := by omega
 clear hv hn hfr hto p; unfold qd
 go_enter Tryz.func17, Tryz.ntmps17
 go_wp2_with fail
 go_ret
 exact ⟨rfl, ja⟩
theorem ends_1 {gp gq gg gh n cap fr tt : Nat} {fa se : Int} {ao : Option Addr} (n0 : ¬ fr < 1) (p : tt < 1) (hn : n ≤ 7) (hfr : fr < 256) (hto : tt < 256) (w : World) :
  Calls Tryz.prog 17 #[qd gp gq gg gh fa se (.slice ao n cap), .int .u8 fr, .int .u8 tt] w fun e w' => e = .returned (.bool (qR n fr tt)) ∧ Below w.heap.size w w' := by
 have hv : qR n fr tt = false := by unfold qR; rw [if_neg n0, if_pos p]
 rw [hv]; have k1 : (1 : Int) ≤ (fr : Int) := by omega
 have k2 : ¬ (1 : Int) ≤ (tt : Int) := by omega
 have g1 : (fr : Int) < 256 := by omega
 have g2 : (tt : Int) < 256 := by omega
 have g3 : (0 : Int) ≤ (fr : Int) := by omega
 have g4 : (0 : Int) ≤ (tt : Int) := by omega
 clear hv hn hfr hto n0 p; unfold qd
 go_enter Tryz.func17, Tryz.ntmps17
 go_wp2_with fail
 go_ret
 exact ⟨rfl, ja⟩
theorem ends_2 {gp gq gg gh n cap fr tt : Nat} {fa se : Int} {ao : Option Addr} (n0 : ¬ fr < 1) (n1 : ¬ tt < 1) (p : n < fr) (hn : n ≤ 7) (hfr : fr < 256) (hto : tt < 256) (w : World) :
  Calls Tryz.prog 17 #[qd gp gq gg gh fa se (.slice ao n cap), .int .u8 fr, .int .u8 tt] w fun e w' => e = .returned (.bool (qR n fr tt)) ∧ Below w.heap.size w w' := by
 have hv : qR n fr tt = false := by unfold qR; rw [if_neg n0, if_neg n1, if_pos p]
 rw [hv]; have k1 : (1 : Int) ≤ (fr : Int) := by omega
 have k2 : (1 : Int) ≤ (tt : Int) := by omega
 have k3 : ¬ (fr : Int) ≤ (n : Int) := by omega
 have g1 : (fr : Int) < 256 := by omega
 have g2 : (tt : Int) < 256 := by omega
 have g3 : (0 : Int) ≤ (fr : Int) := by omega
 have g4 : (0 : Int) ≤ (tt : Int) := by omega
 clear hv hn hfr hto n0 n1 p; unfold qd
 go_enter Tryz.func17, Tryz.ntmps17
 go_wp2_with fail
 go_ret
 exact ⟨rfl, ja⟩
theorem ends_3 {gp gq gg gh n cap fr tt : Nat} {fa se : Int} {ao : Option Addr} (n0 : ¬ fr < 1) (n1 : ¬ tt < 1) (n2 : ¬ n < fr) (p : n < tt) (hn : n ≤ 7) (hfr : fr < 256) (hto : tt < 256) (w : World) :
  Calls Tryz.prog 17 #[qd gp gq gg gh fa se (.slice ao n cap), .int .u8 fr, .int .u8 tt] w fun e w' => e = .returned (.bool (qR n fr tt)) ∧ Below w.heap.size w w' := by
 have hv : qR n fr tt = false := by unfold qR; rw [if_neg n0, if_neg n1, if_neg n2, if_pos p]
 rw [hv]; have k1 : (1 : Int) ≤ (fr : Int) := by omega
 have k2 : (1 : Int) ≤ (tt : Int) := by omega
 have k3 : (fr : Int) ≤ (n : Int) := by omega
 have k4 : ¬ (tt : Int) ≤ (n : Int) := by omega
 have g1 : (fr : Int) < 256 := by omega
 have g2 : (tt : Int) < 256 := by omega
 have g3 : (0 : Int) ≤ (fr : Int) := by omega
 have g4 : (0 : Int) ≤ (tt : Int) := by omega
 clear hv hn hfr hto n0 n1 n2 p; unfold qd
 go_enter Tryz.func17, Tryz.ntmps17
 go_wp2_with fail
 go_ret
 exact ⟨rfl, ja⟩
theorem ends_4 {gp gq gg gh n cap fr tt : Nat} {fa se : Int} {ao : Option Addr} (n0 : ¬ fr < 1) (n1 : ¬ tt < 1) (n2 : ¬ n < fr) (n3 : ¬ n < tt) (p : fr = tt) (hn : n ≤ 7) (hfr : fr < 256) (hto : tt < 256) (w : World) :
  Calls Tryz.prog 17 #[qd gp gq gg gh fa se (.slice ao n cap), .int .u8 fr, .int .u8 tt] w fun e w' => e = .returned (.bool (qR n fr tt)) ∧ Below w.heap.size w w' := by
 have hv : qR n fr tt = false := by unfold qR; rw [if_neg n0, if_neg n1, if_neg n2, if_neg n3, if_pos p]
 rw [hv]; subst p; have k1 : (1 : Int) ≤ (fr : Int) := by omega
 have k3 : (fr : Int) ≤ (n : Int) := by omega
 have g1 : (fr : Int) < 256 := by omega
 have g3 : (0 : Int) ≤ (fr : Int) := by omega
 clear hv hn hfr hto n0 n1 n2 n3; unfold qd
 go_enter Tryz.func17, Tryz.ntmps17
 go_wp2_with fail
 go_ret
 exact ⟨rfl, ja⟩
theorem ends_5 {gp gq gg gh n cap fr tt : Nat} {fa se : Int} {ao : Option Addr} (n0 : ¬ fr < 1) (n1 : ¬ tt < 1) (n2 : ¬ n < fr) (n3 : ¬ n < tt) (n4 : ¬ fr = tt) (hn : n ≤ 7) (hfr : fr < 256) (hto : tt < 256) (w : World) :
  Calls Tryz.prog 17 #[qd gp gq gg gh fa se (.slice ao n cap), .int .u8 fr, .int .u8 tt] w fun e w' => e = .returned (.bool (qR n fr tt)) ∧ Below w.heap.size w w' := by
 have hv : qR n fr tt = true := by unfold qR; rw [if_neg n0, if_neg n1, if_neg n2, if_neg n3, if_neg n4]
 rw [hv]; have k1 : (1 : Int) ≤ (fr : Int) := by omega
 have k2 : (1 : Int) ≤ (tt : Int) := by omega
 have k3 : (fr : Int) ≤ (n : Int) := by omega
 have k4 : (tt : Int) ≤ (n : Int) := by omega
 have k5 : ((fr : Int) != (tt : Int)) = true := by simp; omega
 have g1 : (fr : Int) < 256 := by omega
 have g2 : (tt : Int) < 256 := by omega
 have g3 : (0 : Int) ≤ (fr : Int) := by omega
 have g4 : (0 : Int) ≤ (tt : Int) := by omega
 clear hv hn hfr hto n0 n1 n2 n3 n4; unfold qd
 go_enter Tryz.func17, Tryz.ntmps17
 go_wp2_with fail
 go_ret
 exact ⟨rfl, ja⟩
theorem ends_any {gp gq gg gh n cap fr tt : Nat} {fa se : Int} {ao : Option Addr} (hn : n ≤ 7) (hfr : fr < 256) (hto : tt < 256) (w : World) :
  Calls Tryz.prog 17 #[qd gp gq gg gh fa se (.slice ao n cap), .int .u8 fr, .int .u8 tt] w fun e w' => e = .returned (.bool (qR n fr tt)) ∧ Below w.heap.size w w' := by
 by_cases n0 : fr < 1
 ·exact ends_0 n0 hn hfr hto w
 by_cases n1 : tt < 1
 ·exact ends_1 n0 n1 hn hfr hto w
 by_cases n2 : n < fr
 ·exact ends_2 n0 n1 n2 hn hfr hto w
 by_cases n3 : n < tt
 ·exact ends_3 n0 n1 n2 n3 hn hfr hto w
 by_cases n4 : fr = tt
 ·exact ends_4 n0 n1 n2 n3 n4 hn hfr hto w
 ·exact ends_5 n0 n1 n2 n3 n4 hn hfr hto w
theorem LHash_any {fr tt c s : Nat} {bv : Value} {b : List Nat} (hfr : fr < 256) (hto : tt < 256) (w : World) (hb : KAt .u8 w bv b) (hby : jO b) (hl : b.length ≤ 70000) :
  Calls Tryz.prog 19 #[qy fr tt bv c s] w fun e w' => e = .returned (.agg (jq .u8 (qJ fr tt b)).toArray) ∧ Below w.heap.size w w' := by
 have CO := jh (fun (W : World) (B : Nat) (vs : List Value) (hP : Parts W B 0 vs [[fr], [tt], b]) => Of_any (s := ⟨#[102, 114, 97, 109, 101]⟩) (cap := 3) W hP (by simp) (by unfold maxLen; decide) (by
  intro l hl9; simp only [List.mem_cons, List.not_mem_nil, or_false] at hl9
  rcases hl9 with rfl | rfl | rfl
  ·intro x hx; simp at hx; omega
  ·intro x hx; simp at hx; omega
  ·exact hby) (by unfold jW; simp [qm, jY, qn, ByteArray.size]; omega))
 have KB := jh hb; obtain ⟨ao, cap, rfl, _⟩ := id hb; obtain ⟨n, hn⟩ := je (b.length); rw [← hn] at KB ⊢; obtain ⟨T, hT⟩ := je ((jq .u8 (qJ fr tt b)).toArray); have hszT : (Tryz.prog.info? 55).map (·.size) = some T.size := by rw [Jg, hT]; simp [jx, zO]
 have h1T : T.all (·.oneCell') = true := by rw [hT]; exact qz _ _
 have CO := jh (fun (W : World) (B : Nat) (vs : List Value) (hP : Parts W B 0 vs [[fr], [tt], b]) => by have h9 := CO.out W B vs hP; rw [show qq (jW (qs ⟨#[102, 114, 97, 109, 101]⟩) [[fr], [tt], b]) = qJ fr tt b from rfl, ← hT] at h9; exact h9); rw [← hT]; unfold qy; clear hT hb hby hl hfr hto hn
 go_enter Tryz.func19, Tryz.ntmps19
 go_upto_region 1 with fail
 obtain ⟨v_0, e0⟩ := je (w.alloc (.cells #[.int .u8 fr, .int .u8 tt, .slice ao n cap, .int .u64 (jf jd c 0), .int .u64 (jf jd c 1), .int .u64 (jf jd c 2), .int .u64 (jf jd c 3), .int .u64 (jf jd s 0), .int .u64 (jf jd s 1), .int .u64 (jf jd s 2), .int .u64 (jf jd s 3)] 34)); obtain ⟨v_1, e1⟩ := je (v_0.alloc (.cells #[.int .u8 0, .int .u8 0, .int .u8 0, .int .u8 0, .int .u8 0, .int .u8 0, .int .u8 0, .int .u8 0, .int .u8 0, .int .u8 0, .int .u8 0, .int .u8 0, .int .u8 0, .int .u8 0, .int .u8 0, .int .u8 0, .int .u8 0, .int .u8 0, .int .u8 0, .int .u8 0, .int .u8 0, .int .u8 0, .int .u8 0, .int .u8 0, .int .u8 0, .int .u8 0, .int .u8 0, .int .u8 0, .int .u8 0, .int .u8 0, .int .u8 0, .int .u8 0] 55)); have s0 : v_0.heap.size = w.heap.size + 1 := by rw [e0]; simp
 have b0 := jc e0; have b1 := jc e1; have f0 : FrAt v_0 w.heap.size fr tt (.slice ao n cap) c s := by rw [e0]; exact FrAt.new _ _ _ _ _ _ _
 have f1 : v_1.heap[w.heap.size + 1]? = some (.cells #[.int .u8 0, .int .u8 0, .int .u8 0, .int .u8 0, .int .u8 0, .int .u8 0, .int .u8 0, .int .u8 0, .int .u8 0, .int .u8 0, .int .u8 0, .int .u8 0, .int .u8 0, .int .u8 0, .int .u8 0, .int .u8 0, .int .u8 0, .int .u8 0, .int .u8 0, .int .u8 0, .int .u8 0, .int .u8 0, .int .u8 0, .int .u8 0, .int .u8 0, .int .u8 0, .int .u8 0, .int .u8 0, .int .u8 0, .int .u8 0, .int .u8 0, .int .u8 0] 55 (0, 0)) := by rw [← s0, e1]; exact heap_alloc_new _ _
 rw [← e0, ← e1]; obtain ⟨FB, hFB⟩ := je (w.heap.size); rw [← hFB] at f0 f1 ⊢; obtain ⟨OB, hOB⟩ := je (FB + 1); rw [← hOB] at f1 ⊢; have HOW := jh (show w.heap.size ≤ OB by omega); have HF := jh (f0.later b1); obtain ⟨Z, hZ⟩ : ∃ Z : Array Value, Z = #[.int .u8 0, .int .u8 0, .int .u8 0, .int .u8 0, .int .u8 0, .int .u8 0, .int .u8 0, .int .u8 0, .int .u8 0, .int .u8 0, .int .u8 0, .int .u8 0, .int .u8 0, .int .u8 0, .int .u8 0, .int .u8 0, .int .u8 0, .int .u8 0, .int .u8 0, .int .u8 0, .int .u8 0, .int .u8 0, .int .u8 0, .int .u8 0, .int .u8 0, .int .u8 0, .int .u8 0, .int .u8 0, .int .u8 0, .int .u8 0, .int .u8 0, .int .u8 0] := ⟨_, rfl⟩; have hzs : Z.size = T.size := by rw [Jg] at hszT; rw [hZ]; exact Option.some.inj hszT
 rw [← hZ] at f1; have HO := jh f1; have HB := jh (jk b0 b1); have KB := jh (KB.out.later HB.out); clear e0 e1 s0 b0 b1 f0 f1 hFB hOB hZ; refine wp_region_lit ?_; refine jo (v := .pointer (some ⟨FB, 0, none⟩)) rfl (by kernel_rfl) ?_; simp only [Act.put, pa, pb, pc]; refine jo (v := .int .u8 fr) rfl (jg (zF HF.out.fr)) ?_; simp only [Act.put, pa, pb, pc]; refine qM (v := .slice (some ⟨v_1.heap.size, 0, none⟩) 1 1) (w' := v_1.alloc (.cells #[.int .u8 fr] 5)) rfl (by kernel_rfl) ?_; simp only [Act.put, pa, pb, pc]; obtain ⟨v_2, e9⟩ := je (v_1.alloc (.cells #[.int .u8 fr] 5)); obtain ⟨B1, h9⟩ := je (v_1.heap.size); have hb := jc e9; have K1 := jh (show KAt .u8 v_2 (.slice (some ⟨B1, 0, none⟩) 1 1) [fr] by rw [e9, h9]; exact Zh (by rw [cell_of_row _ _ _ _ _ _ (heap_alloc_new _ _)]; rfl)); have LB1 := jh (show B1 < v_2.heap.size by rw [e9, h9]; simp); have WB1 := jh (show v_1.heap.size = B1 from h9.symm); rw [← e9, ← h9]; clear e9 h9; have HF := jh (HF.out.later hb); have HO := jb hb HO; have HB := jw HB hb; have KB := jh (KB.out.later hb); clear hb; clear LB1 WB1; refine jo (v := .pointer (some ⟨FB, 1, none⟩)) rfl (by kernel_rfl) ?_; simp only [Act.put, pa, pb, pc]; refine jo (v := .int .u8 tt) rfl (jg (zF HF.out.tt)) ?_; simp only [Act.put, pa, pb, pc]; refine qM (v := .slice (some ⟨v_2.heap.size, 0, none⟩) 1 1) (w' := v_2.alloc (.cells #[.int .u8 tt] 5)) rfl (by kernel_rfl) ?_; simp only [Act.put, pa, pb, pc]; obtain ⟨v_3, e9⟩ := je (v_2.alloc (.cells #[.int .u8 tt] 5)); obtain ⟨B2, h9⟩ := je (v_2.heap.size); have hb := jc e9; have K2 := jh (show KAt .u8 v_3 (.slice (some ⟨B2, 0, none⟩) 1 1) [tt] by rw [e9, h9]; exact Zh (by rw [cell_of_row _ _ _ _ _ _ (heap_alloc_new _ _)]; rfl)); have LB2 := jh (show B2 < v_3.heap.size by rw [e9, h9]; simp); have WB2 := jh (show v_2.heap.size = B2 from h9.symm); rw [← e9, ← h9]; clear e9 h9; have HF := jh (HF.out.later hb); have HO := jb hb HO; have HB := jw HB hb; have KB := jh (KB.out.later hb); have K1 := jh (K1.out.later hb); clear hb; clear LB2 WB2; refine jo (v := .pointer (some ⟨FB, 2, none⟩)) rfl (by kernel_rfl) ?_; simp only [Act.put, pa, pb, pc]; refine jo (v := .slice ao n cap) rfl (jg (loadBs HF.out.bv)) ?_; simp only [Act.put, pa, pb, pc]; refine qM (v := .slice (some ⟨v_3.heap.size, 0, none⟩) 3 3) (w' := v_3.alloc (.cells #[.slice (some ⟨B1, 0, none⟩) 1 1, .slice (some ⟨B2, 0, none⟩) 1 1, .slice ao n cap] 30)) rfl (by kernel_rfl) ?_; simp only [Act.put, pa, pb, pc]; obtain ⟨v_4, e9⟩ := je (v_3.alloc (.cells #[.slice (some ⟨B1, 0, none⟩) 1 1, .slice (some ⟨B2, 0, none⟩) 1 1, .slice ao n cap] 30)); obtain ⟨PB, h9⟩ := je (v_3.heap.size); have hb := jc e9; have P0 := jh (show v_4.cell? ⟨PB, 0, none⟩ = some (.slice (some ⟨B1, 0, none⟩) 1 1) by rw [e9, h9]; rw [cell_of_row _ _ _ _ _ _ (heap_alloc_new _ _)]; rfl); have P1 := jh (show v_4.cell? ⟨PB, 1, none⟩ = some (.slice (some ⟨B2, 0, none⟩) 1 1) by rw [e9, h9]; rw [cell_of_row _ _ _ _ _ _ (heap_alloc_new _ _)]; rfl); have P2 := jh (show v_4.cell? ⟨PB, 2, none⟩ = some (.slice ao n cap) by rw [e9, h9]; rw [cell_of_row _ _ _ _ _ _ (heap_alloc_new _ _)]; rfl); have LPB := jh (show PB < v_4.heap.size by rw [e9, h9]; simp); have WPB := jh (show v_3.heap.size = PB from h9.symm); rw [← e9, ← h9]; clear e9 h9; have HF := jh (HF.out.later hb); have HO := jb hb HO; have HB := jw HB hb; have KB := jh (KB.out.later hb); have K1 := jh (K1.out.later hb); have K2 := jh (K2.out.later hb); clear hb
 go_wp2_with fail
 refine (CO.out _ PB _ (zU P0.out P1.out P2.out K1.out K2.out KB.out)).mono ?_; rintro _ v_5 ⟨rfl, hb⟩; have HF := jh (HF.out.later hb); have HO := jb hb HO; have HB := jw HB hb; have KB := jh (KB.out.later hb); have K1 := jh (K1.out.later hb); have K2 := jh (K2.out.later hb); clear hb; clear P0 P1 P2 LPB WPB; dsimp only
 go_step
 refine zJ rfl _ _ _ rfl OB _ _ _ HO.out rfl rfl (by rw [hszT]) hzs h1T ?_; simp only [Act.put, pa, pb, pc]
 go_wp2_with fail
 obtain ⟨w9, e9⟩ := je (v_5.setRow OB T); have hr9 : w9.heap[OB]? = some (.cells T 55 (0, 0)) := by rw [e9]; exact setRow_heap _ _ _ _ _ _ HO.out
 have hb9 : Below w.heap.size w w9 := by rw [e9]; exact below_setRow HB.out HOW.out _
 rw [← e9]; exact bodyPost_ret (results_cell_row rfl _ w9 OB _ _ _ _ rfl hr9 Tryz.underlying55 rfl hszT) rfl ⟨rfl, hb9⟩
def qi (gp gq a : Nat) : Bool := !decide (Zx gp gq a) || decide (a = 1)
theorem keys1_out {GB gp gq gg gh a : Nat} (h : ¬ Zx gp gq a) (ha : a < jj) (hq : gq < jj) (hm : gp < jj) (w : World) (hg : GrpAt w GB gp gq gg gh) :
  Calls Tryz.prog 46 #[ji a, .pointer (some ⟨GB, 0, none⟩)] w fun e w' => e = .returned (.bool (qi gp gq a)) ∧ Below w.heap.size w w' := by
 have CI := jh (fun W => by have h8 := In_any (gg := gg) (gh := gh) ha hq hm W; rw [decide_eq_false h] at h8; unfold jM ji words at h8; exact h8); have HG := jh hg; have hv : qi gp gq a = true := by unfold qi; rw [decide_eq_false h]; rfl
 rw [hv]; clear h hv hg ha hq hm; unfold ji words
 go_enter Tryz.func46, Tryz.ntmps46
 go_upto_region 1 with fail
 obtain ⟨w0, e0⟩ := je (w.alloc (.cells #[.int .u64 (jf jd a 0), .int .u64 (jf jd a 1), .int .u64 (jf jd a 2), .int .u64 (jf jd a 3)] 24)); obtain ⟨AB, hAB⟩ := je (w.heap.size); have hb := jc e0; have HA := jh (show NumAt w0 AB a by rw [e0, hAB]; exact NumAt.new _ _ _ _ rfl); have HG := jh (HG.out.later hb); have HB := jh hb; rw [← e0, ← hAB]; clear e0 hAB hb; refine wp_region_lit ?_; refine jo rfl (jg (qu HG.out)) ?_; refine jo rfl (jg (qW HA.out)) ?_; simp only [Act.put, pa, pb, pc]
 go_wp2_with fail
 refine (CI.out _).mono ?_; rintro _ w1 ⟨rfl, hb⟩; have HA := jn hb HA; have HB := jw HB hb; clear hb
 go_wp2_with fail
 go_ret
 exact ⟨rfl, HB.out⟩
theorem keys1_one {GB gp gq gg gh a : Nat} (h : Zx gp gq a) (h9 : a = 1) (ha : a < jj) (hq : gq < jj) (hm : gp < jj) (w : World) (hg : GrpAt w GB gp gq gg gh) :
  Calls Tryz.prog 46 #[ji a, .pointer (some ⟨GB, 0, none⟩)] w fun e w' => e = .returned (.bool (qi gp gq a)) ∧ Below w.heap.size w w' := by
 have CI := jh (fun W => by have h8 := In_any (gg := gg) (gh := gh) ha hq hm W; rw [decide_eq_true h] at h8; unfold jM ji words at h8; exact h8); have HG := jh hg; have hv : qi gp gq a = true := by unfold qi; rw [decide_eq_true h]; rw [decide_eq_true h9]; rfl
 rw [hv]; have heq := zV a 1 ha (by decide); rw [decide_eq_true h9] at heq; have z0 : ((jf jd 1 0 : Nat) : Int) = 1 := by decide
 have z1 : ((jf jd 1 1 : Nat) : Int) = 0 := by decide
 have z2 : ((jf jd 1 2 : Nat) : Int) = 0 := by decide
 have z3 : ((jf jd 1 3 : Nat) : Int) = 0 := by decide
 simp only [z0, z1, z2, z3] at heq; clear z0 z1 z2 z3 h9; clear h hv hg ha hq hm; unfold ji words
 go_enter Tryz.func46, Tryz.ntmps46
 go_upto_region 1 with fail
 obtain ⟨w0, e0⟩ := je (w.alloc (.cells #[.int .u64 (jf jd a 0), .int .u64 (jf jd a 1), .int .u64 (jf jd a 2), .int .u64 (jf jd a 3)] 24)); obtain ⟨AB, hAB⟩ := je (w.heap.size); have hb := jc e0; have HA := jh (show NumAt w0 AB a by rw [e0, hAB]; exact NumAt.new _ _ _ _ rfl); have HG := jh (HG.out.later hb); have HB := jh hb; rw [← e0, ← hAB]; clear e0 hAB hb; refine wp_region_lit ?_; refine jo rfl (jg (qu HG.out)) ?_; refine jo rfl (jg (qW HA.out)) ?_; simp only [Act.put, pa, pb, pc]
 go_wp2_with fail
 refine (CI.out _).mono ?_; rintro _ w1 ⟨rfl, hb⟩; have HA := jn hb HA; have HB := jw HB hb; clear hb; obtain ⟨r0, r1, r2, r3⟩ := jy HA.out
 go_wp2_with fail
 go_ret
 exact ⟨rfl, HB.out⟩
theorem keys1_in {GB gp gq gg gh a : Nat} (h : Zx gp gq a) (h9 : a ≠ 1) (ha : a < jj) (hq : gq < jj) (hm : gp < jj) (w : World) (hg : GrpAt w GB gp gq gg gh) :
  Calls Tryz.prog 46 #[ji a, .pointer (some ⟨GB, 0, none⟩)] w fun e w' => e = .returned (.bool (qi gp gq a)) ∧ Below w.heap.size w w' := by
 have CI := jh (fun W => by have h8 := In_any (gg := gg) (gh := gh) ha hq hm W; rw [decide_eq_true h] at h8; unfold jM ji words at h8; exact h8); have HG := jh hg; have hv : qi gp gq a = false := by unfold qi; rw [decide_eq_true h]; rw [decide_eq_false h9]; rfl
 rw [hv]; have heq := zV a 1 ha (by decide); rw [decide_eq_false h9] at heq; have z0 : ((jf jd 1 0 : Nat) : Int) = 1 := by decide
 have z1 : ((jf jd 1 1 : Nat) : Int) = 0 := by decide
 have z2 : ((jf jd 1 2 : Nat) : Int) = 0 := by decide
 have z3 : ((jf jd 1 3 : Nat) : Int) = 0 := by decide
 simp only [z0, z1, z2, z3] at heq; clear z0 z1 z2 z3 h9; clear h hv hg ha hq hm; unfold ji words
 go_enter Tryz.func46, Tryz.ntmps46
 go_upto_region 1 with fail
 obtain ⟨w0, e0⟩ := je (w.alloc (.cells #[.int .u64 (jf jd a 0), .int .u64 (jf jd a 1), .int .u64 (jf jd a 2), .int .u64 (jf jd a 3)] 24)); obtain ⟨AB, hAB⟩ := je (w.heap.size); have hb := jc e0; have HA := jh (show NumAt w0 AB a by rw [e0, hAB]; exact NumAt.new _ _ _ _ rfl); have HG := jh (HG.out.later hb); have HB := jh hb; rw [← e0, ← hAB]; clear e0 hAB hb; refine wp_region_lit ?_; refine jo rfl (jg (qu HG.out)) ?_; refine jo rfl (jg (qW HA.out)) ?_; simp only [Act.put, pa, pb, pc]
 go_wp2_with fail
 refine (CI.out _).mono ?_; rintro _ w1 ⟨rfl, hb⟩; have HA := jn hb HA; have HB := jw HB hb; clear hb; obtain ⟨r0, r1, r2, r3⟩ := jy HA.out
 go_wp2_with fail
 go_ret
 exact ⟨rfl, HB.out⟩
theorem keys1_any {GB gp gq gg gh a : Nat} (ha : a < jj) (hq : gq < jj) (hm : gp < jj) (w : World) (hg : GrpAt w GB gp gq gg gh) :
  Calls Tryz.prog 46 #[ji a, .pointer (some ⟨GB, 0, none⟩)] w fun e w' => e = .returned (.bool (qi gp gq a)) ∧ Below w.heap.size w w' := by
 by_cases h : Zx gp gq a
 ·by_cases h9 : a = 1
  ·exact keys1_one h h9 ha hq hm w hg
  ·exact keys1_in h h9 ha hq hm w hg
 ·exact keys1_out h ha hq hm w hg
theorem idxN_any {GB gp gq gg gh b o cap : Nat} {xs : List Nat} (hx : ∀ x ∈ xs, x < jj) (hq : gq < jj) (hm : gp < jj) (hn0 : xs.length ≤ 1000) (w : World) (hg : GrpAt w GB gp gq gg gh) (h : NumsAt w b o xs) :
  Calls Tryz.prog 74 #[.slice (some ⟨b, o, none⟩) xs.length cap, .func (.func 46) #[] #[.pointer (some ⟨GB, 0, none⟩)]] w fun e w' => ∃ r : Int, e = .returned (.int .i64 r) ∧ (-1 ≤ r ∧ r ≤ 1000) ∧ decide (0 ≤ r) = xs.any (qi gp gq) ∧ Below w.heap.size w w' := by
 have HX := jh h; have HG := jh hg; obtain ⟨n, hn⟩ := je (xs.length); have HN := jh hn; rw [← hn]; have hnb : n ≤ 1000 := by omega
 have CK := jh (fun (x : Nat) (hx9 : x < jj) (W : World) hg9 => by have h9 := keys1_any (GB := GB) (gg := gg) (gh := gh) hx9 hq hm W hg9; unfold ji words at h9; exact h9); have HXL := jh hx; clear h hn hx hq hm hn0 hg
 go_enter Tryz.func74, Tryz.ntmps74
 go_wp2_with fail
 go_loopw [8] (fun i wr => ∃ k : Nat, k ≤ n ∧ i = .int .i64 k ∧ Hid ((xs.take k).any (qi gp gq) = false) ∧ Hid (Below w.heap.size w wr)) (fun i _ => n - (intOf i).toNat)
 case atStart => exact ⟨0, Nat.zero_le _, rfl, jh rfl, jh (Below.refl _ _)⟩
 case round =>
  obtain ⟨k, hk, rfl, HK, HB⟩ := hrel
  by_cases hlt : k < n
  ·obtain ⟨x, hx⟩ : ∃ x, xs[k]? = some x := ⟨_, List.getElem?_eq_getElem (by rw [← HN.out]; exact hlt)⟩; have hltI : (k : Int) < (n : Int) := by omega
   have HLT := jh hlt; have HXX := jh (HXL.out x (List.mem_of_getElem? hx)); have HXI := jh hx; have r0 := jm (HX.out k x hx 0 (by decide)) HB.out; have r1 := jm (HX.out k x hx 1 (by decide)) HB.out; have r2 := jm (HX.out k x hx 2 (by decide)) HB.out; have r3 := jm (HX.out k x hx 3 (by decide)) HB.out; rw [Nat.add_zero] at r0; clear hx hlt
   go_wp2_with fail
   clear r0 r1 r2 r3; have CKx := jh (CK.out x HXX.out wr (HG.out.later HB.out))
   by_cases hbad : qi gp gq x = true
   ·rw [hbad] at CKx; refine CKx.out.mono ?_; rintro _ w4 ⟨rfl, hb⟩; have HB := jw HB hb; have HBD := jh hbad; clear hb hbad
    go_wp2_with fail
    go_ret
    exact ⟨_, rfl, ⟨by omega, by have := HLT.out; omega⟩, by
     rw [decide_eq_true (show (0 : Int) ≤ (k : Int) by omega)]
     exact (List.any_eq_true.2 ⟨x, List.mem_of_getElem? HXI.out, HBD.out⟩).symm, HB.out⟩
   ·rw [show qi gp gq x = false by simpa using hbad] at CKx; refine CKx.out.mono ?_; rintro _ w4 ⟨rfl, hb⟩; have HB := jw HB hb; have HBD := jh hbad; clear hb hbad
    go_wp2_with fail
    go_roundw
    case rel => exact ⟨k + 1, HLT.out, by go_num, jh (by rw [List.take_add_one, HXI.out, List.any_append, HK.out]; simpa using HBD.out), HB⟩
    case measure => simp [intOf]; have := HLT.out; omega
  ·obtain rfl : k = n := by omega
   clear hlt
   go_wp2_with fail
   go_ret
   exact ⟨_, rfl, ⟨by omega, by omega⟩, by
    have h9 := HK.out; rw [HN.out, List.take_length] at h9; rw [h9]
    rfl, HB.out⟩
theorem conN_any {GB gp gq gg gh b o cap : Nat} {xs : List Nat} (hx : ∀ x ∈ xs, x < jj) (hq : gq < jj) (hm : gp < jj) (hn0 : xs.length ≤ 1000) (w : World) (hg : GrpAt w GB gp gq gg gh) (h : NumsAt w b o xs) :
  Calls Tryz.prog 45 #[.slice (some ⟨b, o, none⟩) xs.length cap, .func (.func 46) #[] #[.pointer (some ⟨GB, 0, none⟩)]] w fun e w' => e = .returned (.bool (xs.any (qi gp gq))) ∧ Below w.heap.size w w' := by
 have CI := jh (idxN_any (cap := cap) hx hq hm hn0 w hg h); obtain ⟨n, hn⟩ := je (xs.length); obtain ⟨d, hd⟩ := je (xs.any (qi gp gq)); rw [← hn, ← hd] at CI ⊢; clear hn hd hx hq hm hn0 hg h
 go_enter Tryz.func45, Tryz.ntmps45
 go_wp2_with fail
 refine CI.out.mono ?_; rintro _ w1 ⟨r, rfl, ⟨h1, h2⟩, h3, hb⟩; have HB := jh hb; have H3 := jh h3; clear h3 hb
 go_wp2_with fail
 go_ret
 exact ⟨by rw [← H3.out]; rfl, HB.out⟩
theorem keys_any {gp gq gg gh b o cap : Nat} {xs : List Nat} (hx : ∀ x ∈ xs, x < jj) (hq : gq < jj) (hm : gp < jj) (hn0 : xs.length ≤ 1000) (w : World) (h : NumsAt w b o xs) :
  Calls Tryz.prog 27 #[jM gp gq gg gh, .slice (some ⟨b, o, none⟩) xs.length cap] w fun e w' => e = .returned (.bool (!xs.any (qi gp gq))) ∧ Below w.heap.size w w' := by
 have CC := jh (fun (W : World) (GB : Nat) hg9 hx9 => conN_any (GB := GB) (gg := gg) (gh := gh) (o := o) (cap := cap) (b := b) hx hq hm hn0 W hg9 hx9); have HX := jh h; obtain ⟨n, hn⟩ := je (xs.length); obtain ⟨d, hd⟩ := je (xs.any (qi gp gq)); rw [← hn, ← hd] at CC ⊢; clear hn hd hx hq hm hn0 h; unfold jM
 go_enter Tryz.func27, Tryz.ntmps27
 go_upto_region 1 with fail
 obtain ⟨w0, e0⟩ := je (w.alloc (.cells #[.int .u64 (jf jd gp 0), .int .u64 (jf jd gp 1), .int .u64 (jf jd gp 2), .int .u64 (jf jd gp 3), .int .u64 (jf jd gq 0), .int .u64 (jf jd gq 1), .int .u64 (jf jd gq 2), .int .u64 (jf jd gq 3), .int .u64 (jf jd gg 0), .int .u64 (jf jd gg 1), .int .u64 (jf jd gg 2), .int .u64 (jf jd gg 3), .int .u64 (jf jd gh 0), .int .u64 (jf jd gh 1), .int .u64 (jf jd gh 2), .int .u64 (jf jd gh 3)] 26)); obtain ⟨GG, hGG⟩ := je (w.heap.size); have hb := jc e0; have HG := jh (show GrpAt w0 GG gp gq gg gh by rw [e0, hGG]; exact GrpAt.new _ _ _ _ _ _); have HB := jh hb; rw [← e0, ← hGG]; clear e0 hGG hb
 go_wp2_with fail
 refine (CC.out _ GG HG.out (HX.out.later HB.out)).mono ?_; rintro _ w1 ⟨rfl, hb⟩; have HB := jw HB hb; clear hb
 go_wp2_with fail
 go_ret
 exact ⟨rfl, HB.out⟩
def KeysAt (w : World) (b o : Nat) (ks : List (Nat × Nat)) : Prop := ∀ i k, ks[i]? = some k → (∀ j, j < 4 → w.cell? ⟨b, o + i * 8 + j, none⟩ = some (.int .u64 (jf jd k.1 j))) ∧ ∀ j, j < 4 → w.cell? ⟨b, o + i * 8 + (4 + j), none⟩ = some (.int .u64 (jf jd k.2 j))
theorem KeysAt.later {w w' : World} {b o : Nat} {ks : List (Nat × Nat)} (h : KeysAt w b o ks) (hb : Below w.heap.size w w') : KeysAt w' b o ks := fun i k hk => ⟨fun j hj => jm ((h i k hk).1 j hj) hb, fun j hj => jm ((h i k hk).2 j hj) hb⟩
def qF (gp gq : Nat) (k : Nat × Nat) : Bool := qi gp gq k.1 || qi gp gq k.2
def jB (gp gq gg gh : Nat) (fa se : Int) (n : Nat) (ks : List (Nat × Nat)) : Bool :=
 if fa < 0 then false else if 2 < fa then false else if se < 1 then false else if fa + 1 < se then false else if (n : Int) < 3 * fa + 1 then false else if 7 < n then false
 else if zy gq (n + se.toNat) = false then false else if (qi gp gq gg || qi gp gq gh) = true then false else !ks.any (qF gp gq)
theorem zN {w : World} {gp gq gg gh : Nat} {x y z : Value} {t : TypeId} : GrpAt (w.alloc (.cells #[.int .u64 (jf jd gp 0), .int .u64 (jf jd gp 1), .int .u64 (jf jd gp 2), .int .u64 (jf jd gp 3), .int .u64 (jf jd gq 0), .int .u64 (jf jd gq 1), .int .u64 (jf jd gq 2), .int .u64 (jf jd gq 3), .int .u64 (jf jd gg 0), .int .u64 (jf jd gg 1), .int .u64 (jf jd gg 2), .int .u64 (jf jd gg 3), .int .u64 (jf jd gh 0), .int .u64 (jf jd gh 1), .int .u64 (jf jd gh 2), .int .u64 (jf jd gh 3), x, y, z] t)) w.heap.size gp gq gg gh :=
 grp_cells fun j v hj => by
  rw [cell_of_row _ _ _ _ _ _ (heap_alloc_new _ _)]; have hl := (List.getElem?_eq_some_iff.1 hj).1; simp only [List.length_cons, List.length_nil] at hl
  rcases (show j = 0 ∨ j = 1 ∨ j = 2 ∨ j = 3 ∨ j = 4 ∨ j = 5 ∨ j = 6 ∨ j = 7 ∨ j = 8 ∨ j = 9 ∨ j = 10 ∨ j = 11 ∨ j = 12 ∨ j = 13 ∨ j = 14 ∨ j = 15 by omega) with rfl | rfl | rfl | rfl | rfl | rfl | rfl | rfl | rfl | rfl | rfl | rfl | rfl | rfl | rfl | rfl <;> exact hj
theorem set1_any {SB gp gq gg gh : Nat} {k : Nat × Nat} (h1 : k.1 < jj) (h2 : k.2 < jj) (hq : gq < jj) (hm : gp < jj) (w : World) (hg : GrpAt w SB gp gq gg gh) :
  Calls Tryz.prog 29 #[.agg #[.int .u64 (jf jd k.1 0), .int .u64 (jf jd k.1 1), .int .u64 (jf jd k.1 2), .int .u64 (jf jd k.1 3), .int .u64 (jf jd k.2 0), .int .u64 (jf jd k.2 1), .int .u64 (jf jd k.2 2), .int .u64 (jf jd k.2 3)], .pointer (some ⟨SB, 0, none⟩)] w fun e w' => e = .returned (.bool (qF gp gq k)) ∧ Below w.heap.size w w' := by
 have CK := jh (fun (W : World) (B cap : Nat) hx9 => by have h9 := keys_any (gp := gp) (gq := gq) (gg := gg) (gh := gh) (b := B) (o := 0) (cap := cap) (xs := [k.1, k.2]) (by intro x hx; simp only [List.mem_cons, List.not_mem_nil, or_false] at hx; rcases hx with rfl | rfl; exact h1; exact h2) hq hm (by simp) W hx9; unfold jM at h9; exact h9); have HG := jh hg; have hv : [k.1, k.2].any (qi gp gq) = qF gp gq k := by unfold qF; simp
 rw [hv] at CK; obtain ⟨d, hd⟩ := je (qF gp gq k); rw [← hd] at CK ⊢; obtain ⟨x, y⟩ := k; clear hv hd hg h1 h2 hq hm
 go_enter Tryz.func29, Tryz.ntmps29
 go_upto_region 1 with fail
 obtain ⟨w0, e0⟩ := je (w.alloc (.cells #[.int .u64 (jf jd x 0), .int .u64 (jf jd x 1), .int .u64 (jf jd x 2), .int .u64 (jf jd x 3), .int .u64 (jf jd y 0), .int .u64 (jf jd y 1), .int .u64 (jf jd y 2), .int .u64 (jf jd y 3)] 53)); obtain ⟨KB, hKB⟩ := je (w.heap.size); have hb := jc e0; have hrow : w0.heap[KB]? = some (.cells #[.int .u64 (jf jd x 0), .int .u64 (jf jd x 1), .int .u64 (jf jd x 2), .int .u64 (jf jd x 3), .int .u64 (jf jd y 0), .int .u64 (jf jd y 1), .int .u64 (jf jd y 2), .int .u64 (jf jd y 3)] 53 (0, 0)) := by rw [e0, hKB]; exact heap_alloc_new _ _
 have HX := jh (show NumO w0 KB 0 x from fun j hj => by rw [cell_of_row _ _ _ _ _ _ hrow]; rcases (show j = 0 ∨ j = 1 ∨ j = 2 ∨ j = 3 by omega) with rfl | rfl | rfl | rfl <;> rfl); have HY := jh (show NumO w0 KB 4 y from fun j hj => by rw [cell_of_row _ _ _ _ _ _ hrow]; rcases (show j = 0 ∨ j = 1 ∨ j = 2 ∨ j = 3 by omega) with rfl | rfl | rfl | rfl <;> rfl); have HG := jh (HG.out.later hb); have HB := jh hb; rw [← e0, ← hKB]; clear e0 hKB hb hrow; refine wp_region_lit ?_; refine jo (v := .pointer (some ⟨SB, 0, none⟩)) rfl (by kernel_rfl) ?_; refine jo rfl (jg (qu HG.out)) ?_; refine jo (v := .pointer (some ⟨KB, 0, none⟩)) rfl (by kernel_rfl) ?_; refine jo rfl (jg (ql HX.out)) ?_; refine jo (v := .pointer (some ⟨KB, 4, none⟩)) rfl (by kernel_rfl) ?_; refine jo rfl (jg (ql HY.out)) ?_; simp only [Act.put, pa, pb, pc]
 go_wp2_with fail
 obtain ⟨w1, e9⟩ := je (w0.alloc (.cells #[.int .u64 (jf jd x 0), .int .u64 (jf jd x 1), .int .u64 (jf jd x 2), .int .u64 (jf jd x 3), .int .u64 (jf jd y 0), .int .u64 (jf jd y 1), .int .u64 (jf jd y 2), .int .u64 (jf jd y 3)] 24)); obtain ⟨PB, h9⟩ := je (w0.heap.size); have hb := jc e9; have HP := jh (show w1.heap[PB]? = some (.cells #[.int .u64 (jf jd x 0), .int .u64 (jf jd x 1), .int .u64 (jf jd x 2), .int .u64 (jf jd x 3), .int .u64 (jf jd y 0), .int .u64 (jf jd y 1), .int .u64 (jf jd y 2), .int .u64 (jf jd y 3)] 24 (0, 0)) by rw [e9, h9]; exact heap_alloc_new _ _); have LPB := jh (show PB < w1.heap.size by rw [e9, h9]; simp); have WPB := jh (show w0.heap.size = PB from h9.symm); rw [← e9, ← h9]; clear e9 h9; have HB := jw HB hb; clear hb; refine (CK.out _ PB _ (nums2 HP.out)).mono ?_; rintro _ w2 ⟨rfl, hb⟩; have HB := jw HB hb; clear hb
 go_wp2_with fail
 go_ret
 exact ⟨by simp, HB.out⟩
theorem idxK_any {SB gp gq gg gh b o cap : Nat} {ks : List (Nat × Nat)} (hx : ∀ k ∈ ks, k.1 < jj ∧ k.2 < jj) (hq : gq < jj) (hm : gp < jj) (hn0 : ks.length ≤ 1000) (w : World) (hg : GrpAt w SB gp gq gg gh) (h : KeysAt w b o ks) :
  Calls Tryz.prog 47 #[.slice (some ⟨b, o, none⟩) ks.length cap, .func (.func 29) #[] #[.pointer (some ⟨SB, 0, none⟩)]] w fun e w' => ∃ r : Int, e = .returned (.int .i64 r) ∧ (-1 ≤ r ∧ r ≤ 1000) ∧ decide (0 ≤ r) = ks.any (qF gp gq) ∧ Below w.heap.size w w' := by
 have HX := jh h; have HG := jh hg; obtain ⟨n, hn⟩ := je (ks.length); have HN := jh hn; rw [← hn]; have hnb : n ≤ 1000 := by omega
 have CK := jh (fun (k : Nat × Nat) (hx9 : k.1 < jj ∧ k.2 < jj) (W : World) hg9 => set1_any (SB := SB) (gg := gg) (gh := gh) hx9.1 hx9.2 hq hm W hg9); have HXL := jh hx; clear h hn hx hq hm hn0 hg
 go_enter Tryz.func47, Tryz.ntmps47
 go_wp2_with fail
 go_loopw [8] (fun i wr => ∃ k : Nat, k ≤ n ∧ i = .int .i64 k ∧ Hid ((ks.take k).any (qF gp gq) = false) ∧ Hid (Below w.heap.size w wr)) (fun i _ => n - (intOf i).toNat)
 case atStart => exact ⟨0, Nat.zero_le _, rfl, jh rfl, jh (Below.refl _ _)⟩
 case round =>
  obtain ⟨k, hk, rfl, HK, HB⟩ := hrel
  by_cases hlt : k < n
  ·obtain ⟨x, hx⟩ : ∃ x, ks[k]? = some x := ⟨_, List.getElem?_eq_getElem (by rw [← HN.out]; exact hlt)⟩; have hltI : (k : Int) < (n : Int) := by omega
   have HLT := jh hlt; have HXX := jh (HXL.out x (List.mem_of_getElem? hx)); have HXI := jh hx; have r0 := jm ((HX.out k x hx).1 0 (by decide)) HB.out; have r1 := jm ((HX.out k x hx).1 1 (by decide)) HB.out; have r2 := jm ((HX.out k x hx).1 2 (by decide)) HB.out; have r3 := jm ((HX.out k x hx).1 3 (by decide)) HB.out; have r4 := jm ((HX.out k x hx).2 0 (by decide)) HB.out; have r5 := jm ((HX.out k x hx).2 1 (by decide)) HB.out; have r6 := jm ((HX.out k x hx).2 2 (by decide)) HB.out; have r7 := jm ((HX.out k x hx).2 3 (by decide)) HB.out; rw [Nat.add_zero] at r0; simp only [Nat.reduceAdd] at r4 r5 r6 r7; clear hx hlt
   go_wp2_with fail
   clear r0 r1 r2 r3 r4 r5 r6 r7; have CKx := jh (CK.out x HXX.out wr (HG.out.later HB.out))
   by_cases hbad : qF gp gq x = true
   ·rw [hbad] at CKx; refine CKx.out.mono ?_; rintro _ w4 ⟨rfl, hb⟩; have HB := jw HB hb; have HBD := jh hbad; clear hb hbad
    go_wp2_with fail
    go_ret
    exact ⟨_, rfl, ⟨by omega, by have := HLT.out; omega⟩, by
     rw [decide_eq_true (show (0 : Int) ≤ (k : Int) by omega)]
     exact (List.any_eq_true.2 ⟨x, List.mem_of_getElem? HXI.out, HBD.out⟩).symm, HB.out⟩
   ·rw [show qF gp gq x = false by simpa using hbad] at CKx; refine CKx.out.mono ?_; rintro _ w4 ⟨rfl, hb⟩; have HB := jw HB hb; have HBD := jh hbad; clear hb hbad
    go_wp2_with fail
    go_roundw
    case rel => exact ⟨k + 1, HLT.out, by go_num, jh (by rw [List.take_add_one, HXI.out, List.any_append, HK.out]; simpa using HBD.out), HB⟩
    case measure => simp [intOf]; have := HLT.out; omega
  ·obtain rfl : k = n := by omega
   clear hlt
   go_wp2_with fail
   go_ret
   exact ⟨_, rfl, ⟨by omega, by omega⟩, by
    have h9 := HK.out; rw [HN.out, List.take_length] at h9; rw [h9]
    rfl, HB.out⟩
theorem conK_any {SB gp gq gg gh b o cap : Nat} {ks : List (Nat × Nat)} (hx : ∀ k ∈ ks, k.1 < jj ∧ k.2 < jj) (hq : gq < jj) (hm : gp < jj) (hn0 : ks.length ≤ 1000) (w : World) (hg : GrpAt w SB gp gq gg gh) (h : KeysAt w b o ks) :
  Calls Tryz.prog 28 #[.slice (some ⟨b, o, none⟩) ks.length cap, .func (.func 29) #[] #[.pointer (some ⟨SB, 0, none⟩)]] w fun e w' => e = .returned (.bool (ks.any (qF gp gq))) ∧ Below w.heap.size w w' := by
 have CI := jh (idxK_any (cap := cap) hx hq hm hn0 w hg h); obtain ⟨n, hn⟩ := je (ks.length); obtain ⟨d, hd⟩ := je (ks.any (qF gp gq)); rw [← hn, ← hd] at CI ⊢; clear hn hd hx hq hm hn0 hg h
 go_enter Tryz.func28, Tryz.ntmps28
 go_wp2_with fail
 refine CI.out.mono ?_; rintro _ w1 ⟨r, rfl, ⟨h1, h2⟩, h3, hb⟩; have HB := jh hb; have H3 := jh h3; clear h3 hb
 go_wp2_with fail
 go_ret
 exact ⟨by rw [← H3.out]; rfl, HB.out⟩
theorem dset_0 {gp gq gg gh n cap : Nat} {fa se : Int} {ao : Option Addr} {ks : List (Nat × Nat)}  (h0 : fa < 0) (hx : ∀ k ∈ ks, k.1 < jj ∧ k.2 < jj) (hq : gq < jj) (hm : gp < jj) (hgg : gg < jj) (hgh : gh < jj) (hn : n = ks.length) (hfa : -9223372036854775808 ≤ fa ∧ fa ≤ 9223372036854775807) (hse : -9223372036854775808 ≤ se ∧ se ≤ 9223372036854775807) (hn9 : n ≤ 140737488355328) (w : World) (hk : 0 < n → ∃ b o, ao = some ⟨b, o, none⟩ ∧ KeysAt w b o ks) :
  Calls Tryz.prog 16 #[qd gp gq gg gh fa se (.slice ao n cap)] w fun e w' => e = .returned (.bool (jB gp gq gg gh fa se n ks)) ∧ Below w.heap.size w w' := by
 have hv : jB gp gq gg gh fa se n ks = false := by unfold jB; rw [if_pos h0]
 rw [hv]; clear hv; obtain ⟨hf1, hf2⟩ := hfa; obtain ⟨hs1, hs2⟩ := hse; clear hk hx hq hm hgg hgh hn; unfold qd
 go_enter Tryz.func16, Tryz.ntmps16
 go_upto_region 1 with fail
 obtain ⟨w0, e0⟩ := je (w.alloc (.cells #[.int .u64 (jf jd gp 0), .int .u64 (jf jd gp 1), .int .u64 (jf jd gp 2), .int .u64 (jf jd gp 3), .int .u64 (jf jd gq 0), .int .u64 (jf jd gq 1), .int .u64 (jf jd gq 2), .int .u64 (jf jd gq 3), .int .u64 (jf jd gg 0), .int .u64 (jf jd gg 1), .int .u64 (jf jd gg 2), .int .u64 (jf jd gg 3), .int .u64 (jf jd gh 0), .int .u64 (jf jd gh 1), .int .u64 (jf jd gh 2), .int .u64 (jf jd gh 3), .int .i64 fa, .int .i64 se, .slice ao n cap] 29)); obtain ⟨SB, hSB⟩ := je (w.heap.size); have hb := jc e0; have HG := jh (show GrpAt w0 SB gp gq gg gh by rw [e0, hSB]; exact zN); have S16 := jh (show w0.cell? ⟨SB, 16, none⟩ = some (.int .i64 fa) by rw [e0, hSB, cell_of_row _ _ _ _ _ _ (heap_alloc_new _ _)]; rfl); have S17 := jh (show w0.cell? ⟨SB, 17, none⟩ = some (.int .i64 se) by rw [e0, hSB, cell_of_row _ _ _ _ _ _ (heap_alloc_new _ _)]; rfl); have S18 := jh (show w0.cell? ⟨SB, 18, none⟩ = some (.slice ao n cap) by rw [e0, hSB, cell_of_row _ _ _ _ _ _ (heap_alloc_new _ _)]; rfl); have HB := jh hb; rw [← e0, ← hSB]; clear e0 hSB hb; have q16 := S16.out; have q17 := S17.out; have q18 := S18.out
 go_wp2_with fail
 go_ret
 exact ⟨rfl, HB.out⟩
theorem dset_1 {gp gq gg gh n cap : Nat} {fa se : Int} {ao : Option Addr} {ks : List (Nat × Nat)} (h0 : ¬ fa < 0) (h1 : 2 < fa) (hx : ∀ k ∈ ks, k.1 < jj ∧ k.2 < jj) (hq : gq < jj) (hm : gp < jj) (hgg : gg < jj) (hgh : gh < jj) (hn : n = ks.length) (hfa : -9223372036854775808 ≤ fa ∧ fa ≤ 9223372036854775807) (hse : -9223372036854775808 ≤ se ∧ se ≤ 9223372036854775807) (hn9 : n ≤ 140737488355328) (w : World) (hk : 0 < n → ∃ b o, ao = some ⟨b, o, none⟩ ∧ KeysAt w b o ks) :
  Calls Tryz.prog 16 #[qd gp gq gg gh fa se (.slice ao n cap)] w fun e w' => e = .returned (.bool (jB gp gq gg gh fa se n ks)) ∧ Below w.heap.size w w' := by
 have hv : jB gp gq gg gh fa se n ks = false := by unfold jB; rw [if_neg h0, if_pos h1]
 rw [hv]; clear hv; obtain ⟨hf1, hf2⟩ := hfa; obtain ⟨hs1, hs2⟩ := hse; clear hk hx hq hm hgg hgh hn; unfold qd
 go_enter Tryz.func16, Tryz.ntmps16
 go_upto_region 1 with fail
 obtain ⟨w0, e0⟩ := je (w.alloc (.cells #[.int .u64 (jf jd gp 0), .int .u64 (jf jd gp 1), .int .u64 (jf jd gp 2), .int .u64 (jf jd gp 3), .int .u64 (jf jd gq 0), .int .u64 (jf jd gq 1), .int .u64 (jf jd gq 2), .int .u64 (jf jd gq 3), .int .u64 (jf jd gg 0), .int .u64 (jf jd gg 1), .int .u64 (jf jd gg 2), .int .u64 (jf jd gg 3), .int .u64 (jf jd gh 0), .int .u64 (jf jd gh 1), .int .u64 (jf jd gh 2), .int .u64 (jf jd gh 3), .int .i64 fa, .int .i64 se, .slice ao n cap] 29)); obtain ⟨SB, hSB⟩ := je (w.heap.size); have hb := jc e0; have HG := jh (show GrpAt w0 SB gp gq gg gh by rw [e0, hSB]; exact zN); have S16 := jh (show w0.cell? ⟨SB, 16, none⟩ = some (.int .i64 fa) by rw [e0, hSB, cell_of_row _ _ _ _ _ _ (heap_alloc_new _ _)]; rfl); have S17 := jh (show w0.cell? ⟨SB, 17, none⟩ = some (.int .i64 se) by rw [e0, hSB, cell_of_row _ _ _ _ _ _ (heap_alloc_new _ _)]; rfl); have S18 := jh (show w0.cell? ⟨SB, 18, none⟩ = some (.slice ao n cap) by rw [e0, hSB, cell_of_row _ _ _ _ _ _ (heap_alloc_new _ _)]; rfl); have HB := jh hb; rw [← e0, ← hSB]; clear e0 hSB hb; have q16 := S16.out; have q17 := S17.out; have q18 := S18.out
 go_wp2_with fail
 go_ret
 exact ⟨rfl, HB.out⟩
theorem dset_2 {gp gq gg gh n cap : Nat} {fa se : Int} {ao : Option Addr} {ks : List (Nat × Nat)} (h0 : ¬ fa < 0) (h1 : ¬ 2 < fa) (h2 : se < 1) (hx : ∀ k ∈ ks, k.1 < jj ∧ k.2 < jj) (hq : gq < jj) (hm : gp < jj) (hgg : gg < jj) (hgh : gh < jj) (hn : n = ks.length) (hfa : -9223372036854775808 ≤ fa ∧ fa ≤ 9223372036854775807) (hse : -9223372036854775808 ≤ se ∧ se ≤ 9223372036854775807) (hn9 : n ≤ 140737488355328) (w : World) (hk : 0 < n → ∃ b o, ao = some ⟨b, o, none⟩ ∧ KeysAt w b o ks) :
  Calls Tryz.prog 16 #[qd gp gq gg gh fa se (.slice ao n cap)] w fun e w' => e = .returned (.bool (jB gp gq gg gh fa se n ks)) ∧ Below w.heap.size w w' := by
 have hv : jB gp gq gg gh fa se n ks = false := by unfold jB; rw [if_neg h0, if_neg h1, if_pos h2]
 rw [hv]; clear hv; obtain ⟨hf1, hf2⟩ := hfa; obtain ⟨hs1, hs2⟩ := hse; clear hk hx hq hm hgg hgh hn; unfold qd
 go_enter Tryz.func16, Tryz.ntmps16
 go_upto_region 1 with fail
 obtain ⟨w0, e0⟩ := je (w.alloc (.cells #[.int .u64 (jf jd gp 0), .int .u64 (jf jd gp 1), .int .u64 (jf jd gp 2), .int .u64 (jf jd gp 3), .int .u64 (jf jd gq 0), .int .u64 (jf jd gq 1), .int .u64 (jf jd gq 2), .int .u64 (jf jd gq 3), .int .u64 (jf jd gg 0), .int .u64 (jf jd gg 1), .int .u64 (jf jd gg 2), .int .u64 (jf jd gg 3), .int .u64 (jf jd gh 0), .int .u64 (jf jd gh 1), .int .u64 (jf jd gh 2), .int .u64 (jf jd gh 3), .int .i64 fa, .int .i64 se, .slice ao n cap] 29)); obtain ⟨SB, hSB⟩ := je (w.heap.size); have hb := jc e0; have HG := jh (show GrpAt w0 SB gp gq gg gh by rw [e0, hSB]; exact zN); have S16 := jh (show w0.cell? ⟨SB, 16, none⟩ = some (.int .i64 fa) by rw [e0, hSB, cell_of_row _ _ _ _ _ _ (heap_alloc_new _ _)]; rfl); have S17 := jh (show w0.cell? ⟨SB, 17, none⟩ = some (.int .i64 se) by rw [e0, hSB, cell_of_row _ _ _ _ _ _ (heap_alloc_new _ _)]; rfl); have S18 := jh (show w0.cell? ⟨SB, 18, none⟩ = some (.slice ao n cap) by rw [e0, hSB, cell_of_row _ _ _ _ _ _ (heap_alloc_new _ _)]; rfl); have HB := jh hb; rw [← e0, ← hSB]; clear e0 hSB hb; have q16 := S16.out; have q17 := S17.out; have q18 := S18.out
 go_wp2_with fail
 go_ret
 exact ⟨rfl, HB.out⟩
theorem dset_3 {gp gq gg gh n cap : Nat} {fa se : Int} {ao : Option Addr} {ks : List (Nat × Nat)} (h0 : ¬ fa < 0) (h1 : ¬ 2 < fa) (h2 : ¬ se < 1) (h3 : fa + 1 < se) (hx : ∀ k ∈ ks, k.1 < jj ∧ k.2 < jj) (hq : gq < jj) (hm : gp < jj) (hgg : gg < jj) (hgh : gh < jj) (hn : n = ks.length) (hfa : -9223372036854775808 ≤ fa ∧ fa ≤ 9223372036854775807) (hse : -9223372036854775808 ≤ se ∧ se ≤ 9223372036854775807) (hn9 : n ≤ 140737488355328) (w : World) (hk : 0 < n → ∃ b o, ao = some ⟨b, o, none⟩ ∧ KeysAt w b o ks) :
  Calls Tryz.prog 16 #[qd gp gq gg gh fa se (.slice ao n cap)] w fun e w' => e = .returned (.bool (jB gp gq gg gh fa se n ks)) ∧ Below w.heap.size w w' := by
 have hv : jB gp gq gg gh fa se n ks = false := by unfold jB; rw [if_neg h0, if_neg h1, if_neg h2, if_pos h3]
 rw [hv]; clear hv; obtain ⟨hf1, hf2⟩ := hfa; obtain ⟨hs1, hs2⟩ := hse; clear hk hx hq hm hgg hgh hn; unfold qd
 go_enter Tryz.func16, Tryz.ntmps16
 go_upto_region 1 with fail
 obtain ⟨w0, e0⟩ := je (w.alloc (.cells #[.int .u64 (jf jd gp 0), .int .u64 (jf jd gp 1), .int .u64 (jf jd gp 2), .int .u64 (jf jd gp 3), .int .u64 (jf jd gq 0), .int .u64 (jf jd gq 1), .int .u64 (jf jd gq 2), .int .u64 (jf jd gq 3), .int .u64 (jf jd gg 0), .int .u64 (jf jd gg 1), .int .u64 (jf jd gg 2), .int .u64 (jf jd gg 3), .int .u64 (jf jd gh 0), .int .u64 (jf jd gh 1), .int .u64 (jf jd gh 2), .int .u64 (jf jd gh 3), .int .i64 fa, .int .i64 se, .slice ao n cap] 29)); obtain ⟨SB, hSB⟩ := je (w.heap.size); have hb := jc e0; have HG := jh (show GrpAt w0 SB gp gq gg gh by rw [e0, hSB]; exact zN); have S16 := jh (show w0.cell? ⟨SB, 16, none⟩ = some (.int .i64 fa) by rw [e0, hSB, cell_of_row _ _ _ _ _ _ (heap_alloc_new _ _)]; rfl); have S17 := jh (show w0.cell? ⟨SB, 17, none⟩ = some (.int .i64 se) by rw [e0, hSB, cell_of_row _ _ _ _ _ _ (heap_alloc_new _ _)]; rfl); have S18 := jh (show w0.cell? ⟨SB, 18, none⟩ = some (.slice ao n cap) by rw [e0, hSB, cell_of_row _ _ _ _ _ _ (heap_alloc_new _ _)]; rfl); have HB := jh hb; rw [← e0, ← hSB]; clear e0 hSB hb; have q16 := S16.out; have q17 := S17.out; have q18 := S18.out
 go_wp2_with fail
 go_ret
 exact ⟨rfl, HB.out⟩
theorem dset_4 {gp gq gg gh n cap : Nat} {fa se : Int} {ao : Option Addr} {ks : List (Nat × Nat)} (h0 : ¬ fa < 0) (h1 : ¬ 2 < fa) (h2 : ¬ se < 1) (h3 : ¬ fa + 1 < se) (h4 : (n : Int) < 3 * fa + 1) (hx : ∀ k ∈ ks, k.1 < jj ∧ k.2 < jj) (hq : gq < jj) (hm : gp < jj) (hgg : gg < jj) (hgh : gh < jj) (hn : n = ks.length) (hfa : -9223372036854775808 ≤ fa ∧ fa ≤ 9223372036854775807) (hse : -9223372036854775808 ≤ se ∧ se ≤ 9223372036854775807) (hn9 : n ≤ 140737488355328) (w : World) (hk : 0 < n → ∃ b o, ao = some ⟨b, o, none⟩ ∧ KeysAt w b o ks) :
  Calls Tryz.prog 16 #[qd gp gq gg gh fa se (.slice ao n cap)] w fun e w' => e = .returned (.bool (jB gp gq gg gh fa se n ks)) ∧ Below w.heap.size w w' := by
 have hv : jB gp gq gg gh fa se n ks = false := by unfold jB; rw [if_neg h0, if_neg h1, if_neg h2, if_neg h3, if_pos h4]
 rw [hv]; clear hv; obtain ⟨hf1, hf2⟩ := hfa; obtain ⟨hs1, hs2⟩ := hse; clear hk hx hq hm hgg hgh hn; unfold qd
 go_enter Tryz.func16, Tryz.ntmps16
 go_upto_region 1 with fail
 obtain ⟨w0, e0⟩ := je (w.alloc (.cells #[.int .u64 (jf jd gp 0), .int .u64 (jf jd gp 1), .int .u64 (jf jd gp 2), .int .u64 (jf jd gp 3), .int .u64 (jf jd gq 0), .int .u64 (jf jd gq 1), .int .u64 (jf jd gq 2), .int .u64 (jf jd gq 3), .int .u64 (jf jd gg 0), .int .u64 (jf jd gg 1), .int .u64 (jf jd gg 2), .int .u64 (jf jd gg 3), .int .u64 (jf jd gh 0), .int .u64 (jf jd gh 1), .int .u64 (jf jd gh 2), .int .u64 (jf jd gh 3), .int .i64 fa, .int .i64 se, .slice ao n cap] 29)); obtain ⟨SB, hSB⟩ := je (w.heap.size); have hb := jc e0; have HG := jh (show GrpAt w0 SB gp gq gg gh by rw [e0, hSB]; exact zN); have S16 := jh (show w0.cell? ⟨SB, 16, none⟩ = some (.int .i64 fa) by rw [e0, hSB, cell_of_row _ _ _ _ _ _ (heap_alloc_new _ _)]; rfl); have S17 := jh (show w0.cell? ⟨SB, 17, none⟩ = some (.int .i64 se) by rw [e0, hSB, cell_of_row _ _ _ _ _ _ (heap_alloc_new _ _)]; rfl); have S18 := jh (show w0.cell? ⟨SB, 18, none⟩ = some (.slice ao n cap) by rw [e0, hSB, cell_of_row _ _ _ _ _ _ (heap_alloc_new _ _)]; rfl); have HB := jh hb; rw [← e0, ← hSB]; clear e0 hSB hb; have q16 := S16.out; have q17 := S17.out; have q18 := S18.out
 go_wp2_with fail
 go_ret
 exact ⟨rfl, HB.out⟩
theorem dset_5 {gp gq gg gh n cap : Nat} {fa se : Int} {ao : Option Addr} {ks : List (Nat × Nat)} (h0 : ¬ fa < 0) (h1 : ¬ 2 < fa) (h2 : ¬ se < 1) (h3 : ¬ fa + 1 < se) (h4 : ¬ (n : Int) < 3 * fa + 1) (h5 : 7 < n) (hx : ∀ k ∈ ks, k.1 < jj ∧ k.2 < jj) (hq : gq < jj) (hm : gp < jj) (hgg : gg < jj) (hgh : gh < jj) (hn : n = ks.length) (hfa : -9223372036854775808 ≤ fa ∧ fa ≤ 9223372036854775807) (hse : -9223372036854775808 ≤ se ∧ se ≤ 9223372036854775807) (hn9 : n ≤ 140737488355328) (w : World) (hk : 0 < n → ∃ b o, ao = some ⟨b, o, none⟩ ∧ KeysAt w b o ks) :
  Calls Tryz.prog 16 #[qd gp gq gg gh fa se (.slice ao n cap)] w fun e w' => e = .returned (.bool (jB gp gq gg gh fa se n ks)) ∧ Below w.heap.size w w' := by
 have hv : jB gp gq gg gh fa se n ks = false := by unfold jB; rw [if_neg h0, if_neg h1, if_neg h2, if_neg h3, if_neg h4, if_pos h5]
 rw [hv]; clear hv; obtain ⟨hf1, hf2⟩ := hfa; obtain ⟨hs1, hs2⟩ := hse; have h5I : (7 : Int) < (n : Int) := by omega
 clear hk hx hq hm hgg hgh hn; unfold qd
 go_enter Tryz.func16, Tryz.ntmps16
 go_upto_region 1 with fail
 obtain ⟨w0, e0⟩ := je (w.alloc (.cells #[.int .u64 (jf jd gp 0), .int .u64 (jf jd gp 1), .int .u64 (jf jd gp 2), .int .u64 (jf jd gp 3), .int .u64 (jf jd gq 0), .int .u64 (jf jd gq 1), .int .u64 (jf jd gq 2), .int .u64 (jf jd gq 3), .int .u64 (jf jd gg 0), .int .u64 (jf jd gg 1), .int .u64 (jf jd gg 2), .int .u64 (jf jd gg 3), .int .u64 (jf jd gh 0), .int .u64 (jf jd gh 1), .int .u64 (jf jd gh 2), .int .u64 (jf jd gh 3), .int .i64 fa, .int .i64 se, .slice ao n cap] 29)); obtain ⟨SB, hSB⟩ := je (w.heap.size); have hb := jc e0; have HG := jh (show GrpAt w0 SB gp gq gg gh by rw [e0, hSB]; exact zN); have S16 := jh (show w0.cell? ⟨SB, 16, none⟩ = some (.int .i64 fa) by rw [e0, hSB, cell_of_row _ _ _ _ _ _ (heap_alloc_new _ _)]; rfl); have S17 := jh (show w0.cell? ⟨SB, 17, none⟩ = some (.int .i64 se) by rw [e0, hSB, cell_of_row _ _ _ _ _ _ (heap_alloc_new _ _)]; rfl); have S18 := jh (show w0.cell? ⟨SB, 18, none⟩ = some (.slice ao n cap) by rw [e0, hSB, cell_of_row _ _ _ _ _ _ (heap_alloc_new _ _)]; rfl); have HB := jh hb; rw [← e0, ← hSB]; clear e0 hSB hb; have q16 := S16.out; have q17 := S17.out; have q18 := S18.out
 go_wp2_with fail
 go_ret
 exact ⟨rfl, HB.out⟩
theorem dset_6 {gp gq gg gh n cap : Nat} {fa se : Int} {ao : Option Addr} {ks : List (Nat × Nat)} (h0 : ¬ fa < 0) (h1 : ¬ 2 < fa) (h2 : ¬ se < 1) (h3 : ¬ fa + 1 < se) (h4 : ¬ (n : Int) < 3 * fa + 1) (h5 : ¬ 7 < n) (h6 : zy gq (n + se.toNat) = false) (hx : ∀ k ∈ ks, k.1 < jj ∧ k.2 < jj) (hq : gq < jj) (hm : gp < jj) (hgg : gg < jj) (hgh : gh < jj) (hn : n = ks.length) (hfa : -9223372036854775808 ≤ fa ∧ fa ≤ 9223372036854775807) (hse : -9223372036854775808 ≤ se ∧ se ≤ 9223372036854775807) (hn9 : n ≤ 140737488355328) (w : World) (hk : 0 < n → ∃ b o, ao = some ⟨b, o, none⟩ ∧ KeysAt w b o ks) :
  Calls Tryz.prog 16 #[qd gp gq gg gh fa se (.slice ao n cap)] w fun e w' => e = .returned (.bool (jB gp gq gg gh fa se n ks)) ∧ Below w.heap.size w w' := by
 have hv : jB gp gq gg gh fa se n ks = false := by unfold jB; rw [if_neg h0, if_neg h1, if_neg h2, if_neg h3, if_neg h4, if_neg h5, if_pos h6]
 rw [hv]; clear hv; obtain ⟨hf1, hf2⟩ := hfa; obtain ⟨hs1, hs2⟩ := hse; obtain ⟨m, hm9⟩ := je (n + se.toNat); have hmI : (n : Int) + se = (m : Int) := by omega
 have hmb : m ≤ 1000 := by omega
 have CA := jh (fun W => by have h9 := ZF (a := gq) hmb W; rw [show zy gq m = false by rw [hm9]; exact h6] at h9; unfold ji words at h9; exact h9); clear hm9 h6; have hn7 : (n : Int) ≤ 1000000 := by omega
 have h5I : ¬ (7 : Int) < (n : Int) := by omega
 clear hk hx hq hm hgg hgh hn; unfold qd
 go_enter Tryz.func16, Tryz.ntmps16
 go_upto_region 1 with fail
 obtain ⟨w0, e0⟩ := je (w.alloc (.cells #[.int .u64 (jf jd gp 0), .int .u64 (jf jd gp 1), .int .u64 (jf jd gp 2), .int .u64 (jf jd gp 3), .int .u64 (jf jd gq 0), .int .u64 (jf jd gq 1), .int .u64 (jf jd gq 2), .int .u64 (jf jd gq 3), .int .u64 (jf jd gg 0), .int .u64 (jf jd gg 1), .int .u64 (jf jd gg 2), .int .u64 (jf jd gg 3), .int .u64 (jf jd gh 0), .int .u64 (jf jd gh 1), .int .u64 (jf jd gh 2), .int .u64 (jf jd gh 3), .int .i64 fa, .int .i64 se, .slice ao n cap] 29)); obtain ⟨SB, hSB⟩ := je (w.heap.size); have hb := jc e0; have HG := jh (show GrpAt w0 SB gp gq gg gh by rw [e0, hSB]; exact zN); have S16 := jh (show w0.cell? ⟨SB, 16, none⟩ = some (.int .i64 fa) by rw [e0, hSB, cell_of_row _ _ _ _ _ _ (heap_alloc_new _ _)]; rfl); have S17 := jh (show w0.cell? ⟨SB, 17, none⟩ = some (.int .i64 se) by rw [e0, hSB, cell_of_row _ _ _ _ _ _ (heap_alloc_new _ _)]; rfl); have S18 := jh (show w0.cell? ⟨SB, 18, none⟩ = some (.slice ao n cap) by rw [e0, hSB, cell_of_row _ _ _ _ _ _ (heap_alloc_new _ _)]; rfl); have HB := jh hb; rw [← e0, ← hSB]; clear e0 hSB hb; have q16 := S16.out; have q17 := S17.out; have q18 := S18.out; obtain ⟨y0, y1, y2, y3, y4, y5, y6, y7, y8, y9, y10, y11, y12, y13, y14, y15⟩ := ZK HG.out
 go_wp2_with fail
 clear q16 q17 q18 y0 y1 y2 y3 y4 y5 y6 y7 y8 y9 y10 y11 y12 y13 y14 y15; refine (CA.out _).mono ?_; rintro _ w1 ⟨rfl, hb⟩; have HB := jw HB hb; have HG := jh (HG.out.later hb); have S16 := jh (jm S16.out hb); have S17 := jh (jm S17.out hb); have S18 := jh (jm S18.out hb); clear hb
 go_wp2_with fail
 go_ret
 exact ⟨rfl, HB.out⟩
theorem dset_7 {gp gq gg gh n cap : Nat} {fa se : Int} {ao : Option Addr} {ks : List (Nat × Nat)} (h0 : ¬ fa < 0) (h1 : ¬ 2 < fa) (h2 : ¬ se < 1) (h3 : ¬ fa + 1 < se) (h4 : ¬ (n : Int) < 3 * fa + 1) (h5 : ¬ 7 < n) (h6 : ¬ zy gq (n + se.toNat) = false) (h7 : (qi gp gq gg || qi gp gq gh) = true) (hx : ∀ k ∈ ks, k.1 < jj ∧ k.2 < jj) (hq : gq < jj) (hm : gp < jj) (hgg : gg < jj) (hgh : gh < jj) (hn : n = ks.length) (hfa : -9223372036854775808 ≤ fa ∧ fa ≤ 9223372036854775807) (hse : -9223372036854775808 ≤ se ∧ se ≤ 9223372036854775807) (hn9 : n ≤ 140737488355328) (w : World) (hk : 0 < n → ∃ b o, ao = some ⟨b, o, none⟩ ∧ KeysAt w b o ks) :
  Calls Tryz.prog 16 #[qd gp gq gg gh fa se (.slice ao n cap)] w fun e w' => e = .returned (.bool (jB gp gq gg gh fa se n ks)) ∧ Below w.heap.size w w' := by
 have hv : jB gp gq gg gh fa se n ks = false := by unfold jB; rw [if_neg h0, if_neg h1, if_neg h2, if_neg h3, if_neg h4, if_neg h5, if_neg h6, if_pos h7]
 rw [hv]; clear hv; obtain ⟨hf1, hf2⟩ := hfa; obtain ⟨hs1, hs2⟩ := hse; obtain ⟨m, hm9⟩ := je (n + se.toNat); have hmI : (n : Int) + se = (m : Int) := by omega
 have hmb : m ≤ 1000 := by omega
 have CA := jh (fun W => by have h9 := ZF (a := gq) hmb W; rw [show zy gq m = true by rw [hm9]; simpa using h6] at h9; unfold ji words at h9; exact h9); clear hm9 h6; have CK := jh (fun (W : World) (B cap : Nat) hx9 => by have h9 := keys_any (gp := gp) (gq := gq) (gg := gg) (gh := gh) (b := B) (o := 0) (cap := cap) (xs := [gg, gh]) (by intro x hx; simp only [List.mem_cons, List.not_mem_nil, or_false] at hx; rcases hx with rfl | rfl; exact hgg; exact hgh) hq hm (by simp) W hx9; rw [show [gg, gh].any (qi gp gq) = true by simpa using h7] at h9; unfold jM at h9; exact h9); clear h7; have hn7 : (n : Int) ≤ 1000000 := by omega
 have h5I : ¬ (7 : Int) < (n : Int) := by omega
 clear hk hx hq hm hgg hgh hn; unfold qd
 go_enter Tryz.func16, Tryz.ntmps16
 go_upto_region 1 with fail
 obtain ⟨w0, e0⟩ := je (w.alloc (.cells #[.int .u64 (jf jd gp 0), .int .u64 (jf jd gp 1), .int .u64 (jf jd gp 2), .int .u64 (jf jd gp 3), .int .u64 (jf jd gq 0), .int .u64 (jf jd gq 1), .int .u64 (jf jd gq 2), .int .u64 (jf jd gq 3), .int .u64 (jf jd gg 0), .int .u64 (jf jd gg 1), .int .u64 (jf jd gg 2), .int .u64 (jf jd gg 3), .int .u64 (jf jd gh 0), .int .u64 (jf jd gh 1), .int .u64 (jf jd gh 2), .int .u64 (jf jd gh 3), .int .i64 fa, .int .i64 se, .slice ao n cap] 29)); obtain ⟨SB, hSB⟩ := je (w.heap.size); have hb := jc e0; have HG := jh (show GrpAt w0 SB gp gq gg gh by rw [e0, hSB]; exact zN); have S16 := jh (show w0.cell? ⟨SB, 16, none⟩ = some (.int .i64 fa) by rw [e0, hSB, cell_of_row _ _ _ _ _ _ (heap_alloc_new _ _)]; rfl); have S17 := jh (show w0.cell? ⟨SB, 17, none⟩ = some (.int .i64 se) by rw [e0, hSB, cell_of_row _ _ _ _ _ _ (heap_alloc_new _ _)]; rfl); have S18 := jh (show w0.cell? ⟨SB, 18, none⟩ = some (.slice ao n cap) by rw [e0, hSB, cell_of_row _ _ _ _ _ _ (heap_alloc_new _ _)]; rfl); have HB := jh hb; rw [← e0, ← hSB]; clear e0 hSB hb; have q16 := S16.out; have q17 := S17.out; have q18 := S18.out; obtain ⟨y0, y1, y2, y3, y4, y5, y6, y7, y8, y9, y10, y11, y12, y13, y14, y15⟩ := ZK HG.out
 go_wp2_with fail
 clear q16 q17 q18 y0 y1 y2 y3 y4 y5 y6 y7 y8 y9 y10 y11 y12 y13 y14 y15; refine (CA.out _).mono ?_; rintro _ w1 ⟨rfl, hb⟩; have HB := jw HB hb; have HG := jh (HG.out.later hb); have S16 := jh (jm S16.out hb); have S17 := jh (jm S17.out hb); have S18 := jh (jm S18.out hb); clear hb; have q16 := S16.out; have q17 := S17.out; have q18 := S18.out; obtain ⟨y0, y1, y2, y3, y4, y5, y6, y7, y8, y9, y10, y11, y12, y13, y14, y15⟩ := ZK HG.out
 go_wp2_with fail
 clear q16 q17 q18 y0 y1 y2 y3 y4 y5 y6 y7 y8 y9 y10 y11 y12 y13 y14 y15; obtain ⟨w2, e9⟩ := je (w1.alloc (.cells #[.int .u64 (jf jd gg 0), .int .u64 (jf jd gg 1), .int .u64 (jf jd gg 2), .int .u64 (jf jd gg 3), .int .u64 (jf jd gh 0), .int .u64 (jf jd gh 1), .int .u64 (jf jd gh 2), .int .u64 (jf jd gh 3)] 24)); obtain ⟨PB, h9⟩ := je (w1.heap.size); have hb := jc e9; have HP := jh (show w2.heap[PB]? = some (.cells #[.int .u64 (jf jd gg 0), .int .u64 (jf jd gg 1), .int .u64 (jf jd gg 2), .int .u64 (jf jd gg 3), .int .u64 (jf jd gh 0), .int .u64 (jf jd gh 1), .int .u64 (jf jd gh 2), .int .u64 (jf jd gh 3)] 24 (0, 0)) by rw [e9, h9]; exact heap_alloc_new _ _); have LPB := jh (show PB < w2.heap.size by rw [e9, h9]; simp); have WPB := jh (show w1.heap.size = PB from h9.symm); rw [← e9, ← h9]; clear e9 h9; have HB := jw HB hb; have HG := jh (HG.out.later hb); have S16 := jh (jm S16.out hb); have S17 := jh (jm S17.out hb); have S18 := jh (jm S18.out hb); clear hb; refine (CK.out _ PB _ (nums2 HP.out)).mono ?_; rintro _ w3 ⟨rfl, hb⟩; have HB := jw HB hb; have HG := jh (HG.out.later hb); have S16 := jh (jm S16.out hb); have S17 := jh (jm S17.out hb); have S18 := jh (jm S18.out hb); have LPB := jl LPB hb.size; clear hb; clear HP
 go_wp2_with fail
 go_ret
 exact ⟨rfl, HB.out⟩
theorem dset_8 {gp gq gg gh n cap : Nat} {fa se : Int} {ao : Option Addr} {ks : List (Nat × Nat)} (h0 : ¬ fa < 0) (h1 : ¬ 2 < fa) (h2 : ¬ se < 1) (h3 : ¬ fa + 1 < se) (h4 : ¬ (n : Int) < 3 * fa + 1) (h5 : ¬ 7 < n) (h6 : ¬ zy gq (n + se.toNat) = false) (h7 : ¬ (qi gp gq gg || qi gp gq gh) = true) (hx : ∀ k ∈ ks, k.1 < jj ∧ k.2 < jj) (hq : gq < jj) (hm : gp < jj) (hgg : gg < jj) (hgh : gh < jj) (hn : n = ks.length) (hfa : -9223372036854775808 ≤ fa ∧ fa ≤ 9223372036854775807) (hse : -9223372036854775808 ≤ se ∧ se ≤ 9223372036854775807) (hn9 : n ≤ 140737488355328) (w : World) (hk : 0 < n → ∃ b o, ao = some ⟨b, o, none⟩ ∧ KeysAt w b o ks) :
  Calls Tryz.prog 16 #[qd gp gq gg gh fa se (.slice ao n cap)] w fun e w' => e = .returned (.bool (jB gp gq gg gh fa se n ks)) ∧ Below w.heap.size w w' := by
 have hv : jB gp gq gg gh fa se n ks = (!ks.any (qF gp gq)) := by unfold jB; rw [if_neg h0, if_neg h1, if_neg h2, if_neg h3, if_neg h4, if_neg h5, if_neg h6, if_neg h7]
 rw [hv]; clear hv; obtain ⟨hf1, hf2⟩ := hfa; obtain ⟨hs1, hs2⟩ := hse; obtain ⟨m, hm9⟩ := je (n + se.toNat); have hmI : (n : Int) + se = (m : Int) := by omega
 have hmb : m ≤ 1000 := by omega
 have CA := jh (fun W => by have h9 := ZF (a := gq) hmb W; rw [show zy gq m = true by rw [hm9]; simpa using h6] at h9; unfold ji words at h9; exact h9); clear hm9 h6; have CK := jh (fun (W : World) (B cap : Nat) hx9 => by have h9 := keys_any (gp := gp) (gq := gq) (gg := gg) (gh := gh) (b := B) (o := 0) (cap := cap) (xs := [gg, gh]) (by intro x hx; simp only [List.mem_cons, List.not_mem_nil, or_false] at hx; rcases hx with rfl | rfl; exact hgg; exact hgh) hq hm (by simp) W hx9; rw [show [gg, gh].any (qi gp gq) = false by simpa using h7] at h9; unfold jM at h9; exact h9); clear h7; obtain ⟨b, o, hao, hks⟩ := hk (by omega); subst hao; have CC := jh (fun (W : World) (SB : Nat) hg9 hk9 => by have h9 := conK_any (SB := SB) (gg := gg) (gh := gh) (b := b) (o := o) (cap := cap) hx hq hm (by omega) W hg9 hk9; rw [← hn] at h9; exact h9); have HKS := jh hks; obtain ⟨d, hd⟩ := je (ks.any (qF gp gq)); rw [← hd] at CC ⊢; clear hks hd; have hn7 : (n : Int) ≤ 1000000 := by omega
 have h5I : ¬ (7 : Int) < (n : Int) := by omega
 clear hk hx hq hm hgg hgh hn; unfold qd
 go_enter Tryz.func16, Tryz.ntmps16
 go_upto_region 1 with fail
 obtain ⟨w0, e0⟩ := je (w.alloc (.cells #[.int .u64 (jf jd gp 0), .int .u64 (jf jd gp 1), .int .u64 (jf jd gp 2), .int .u64 (jf jd gp 3), .int .u64 (jf jd gq 0), .int .u64 (jf jd gq 1), .int .u64 (jf jd gq 2), .int .u64 (jf jd gq 3), .int .u64 (jf jd gg 0), .int .u64 (jf jd gg 1), .int .u64 (jf jd gg 2), .int .u64 (jf jd gg 3), .int .u64 (jf jd gh 0), .int .u64 (jf jd gh 1), .int .u64 (jf jd gh 2), .int .u64 (jf jd gh 3), .int .i64 fa, .int .i64 se, .slice (some ⟨b, o, none⟩) n cap] 29)); obtain ⟨SB, hSB⟩ := je (w.heap.size); have hb := jc e0; have HG := jh (show GrpAt w0 SB gp gq gg gh by rw [e0, hSB]; exact zN); have S16 := jh (show w0.cell? ⟨SB, 16, none⟩ = some (.int .i64 fa) by rw [e0, hSB, cell_of_row _ _ _ _ _ _ (heap_alloc_new _ _)]; rfl); have S17 := jh (show w0.cell? ⟨SB, 17, none⟩ = some (.int .i64 se) by rw [e0, hSB, cell_of_row _ _ _ _ _ _ (heap_alloc_new _ _)]; rfl); have S18 := jh (show w0.cell? ⟨SB, 18, none⟩ = some (.slice (some ⟨b, o, none⟩) n cap) by rw [e0, hSB, cell_of_row _ _ _ _ _ _ (heap_alloc_new _ _)]; rfl); have HB := jh hb; rw [← e0, ← hSB]; clear e0 hSB hb; have HKS := jh (HKS.out.later HB.out); have q16 := S16.out; have q17 := S17.out; have q18 := S18.out; obtain ⟨y0, y1, y2, y3, y4, y5, y6, y7, y8, y9, y10, y11, y12, y13, y14, y15⟩ := ZK HG.out
 go_wp2_with fail
 clear q16 q17 q18 y0 y1 y2 y3 y4 y5 y6 y7 y8 y9 y10 y11 y12 y13 y14 y15; refine (CA.out _).mono ?_; rintro _ w1 ⟨rfl, hb⟩; have HB := jw HB hb; have HG := jh (HG.out.later hb); have S16 := jh (jm S16.out hb); have S17 := jh (jm S17.out hb); have S18 := jh (jm S18.out hb); have HKS := jh (HKS.out.later hb); clear hb; have q16 := S16.out; have q17 := S17.out; have q18 := S18.out; obtain ⟨y0, y1, y2, y3, y4, y5, y6, y7, y8, y9, y10, y11, y12, y13, y14, y15⟩ := ZK HG.out
 go_wp2_with fail
 clear q16 q17 q18 y0 y1 y2 y3 y4 y5 y6 y7 y8 y9 y10 y11 y12 y13 y14 y15; obtain ⟨w2, e9⟩ := je (w1.alloc (.cells #[.int .u64 (jf jd gg 0), .int .u64 (jf jd gg 1), .int .u64 (jf jd gg 2), .int .u64 (jf jd gg 3), .int .u64 (jf jd gh 0), .int .u64 (jf jd gh 1), .int .u64 (jf jd gh 2), .int .u64 (jf jd gh 3)] 24)); obtain ⟨PB, h9⟩ := je (w1.heap.size); have hb := jc e9; have HP := jh (show w2.heap[PB]? = some (.cells #[.int .u64 (jf jd gg 0), .int .u64 (jf jd gg 1), .int .u64 (jf jd gg 2), .int .u64 (jf jd gg 3), .int .u64 (jf jd gh 0), .int .u64 (jf jd gh 1), .int .u64 (jf jd gh 2), .int .u64 (jf jd gh 3)] 24 (0, 0)) by rw [e9, h9]; exact heap_alloc_new _ _); have LPB := jh (show PB < w2.heap.size by rw [e9, h9]; simp); have WPB := jh (show w1.heap.size = PB from h9.symm); rw [← e9, ← h9]; clear e9 h9; have HB := jw HB hb; have HG := jh (HG.out.later hb); have S16 := jh (jm S16.out hb); have S17 := jh (jm S17.out hb); have S18 := jh (jm S18.out hb); have HKS := jh (HKS.out.later hb); clear hb; refine (CK.out _ PB _ (nums2 HP.out)).mono ?_; rintro _ w3 ⟨rfl, hb⟩; have HB := jw HB hb; have HG := jh (HG.out.later hb); have S16 := jh (jm S16.out hb); have S17 := jh (jm S17.out hb); have S18 := jh (jm S18.out hb); have HKS := jh (HKS.out.later hb); have LPB := jl LPB hb.size; clear hb; clear HP; have q18 := S18.out
 go_wp2_with fail
 clear q18; refine (CC.out _ SB HG.out HKS.out).mono ?_; rintro _ w4 ⟨rfl, hb⟩; have HB := jw HB hb; clear hb
 go_wp2_with fail
 go_ret
 exact ⟨rfl, HB.out⟩
theorem DSet_any {gp gq gg gh n cap : Nat} {fa se : Int} {ao : Option Addr} {ks : List (Nat × Nat)} (hx : ∀ k ∈ ks, k.1 < jj ∧ k.2 < jj) (hq : gq < jj) (hm : gp < jj) (hgg : gg < jj) (hgh : gh < jj) (hn : n = ks.length) (hfa : -9223372036854775808 ≤ fa ∧ fa ≤ 9223372036854775807) (hse : -9223372036854775808 ≤ se ∧ se ≤ 9223372036854775807) (hn9 : n ≤ 140737488355328) (w : World) (hk : 0 < n → ∃ b o, ao = some ⟨b, o, none⟩ ∧ KeysAt w b o ks) :
  Calls Tryz.prog 16 #[qd gp gq gg gh fa se (.slice ao n cap)] w fun e w' => e = .returned (.bool (jB gp gq gg gh fa se n ks)) ∧ Below w.heap.size w w' := by
 by_cases h0 : fa < 0
 ·exact dset_0 h0 hx hq hm hgg hgh hn hfa hse hn9 w hk
 by_cases h1 : 2 < fa
 ·exact dset_1 h0 h1 hx hq hm hgg hgh hn hfa hse hn9 w hk
 by_cases h2 : se < 1
 ·exact dset_2 h0 h1 h2 hx hq hm hgg hgh hn hfa hse hn9 w hk
 by_cases h3 : fa + 1 < se
 ·exact dset_3 h0 h1 h2 h3 hx hq hm hgg hgh hn hfa hse hn9 w hk
 by_cases h4 : (n : Int) < 3 * fa + 1
 ·exact dset_4 h0 h1 h2 h3 h4 hx hq hm hgg hgh hn hfa hse hn9 w hk
 by_cases h5 : 7 < n
 ·exact dset_5 h0 h1 h2 h3 h4 h5 hx hq hm hgg hgh hn hfa hse hn9 w hk
 by_cases h6 : zy gq (n + se.toNat) = false
 ·exact dset_6 h0 h1 h2 h3 h4 h5 h6 hx hq hm hgg hgh hn hfa hse hn9 w hk
 by_cases h7 : (qi gp gq gg || qi gp gq gh) = true
 ·exact dset_7 h0 h1 h2 h3 h4 h5 h6 h7 hx hq hm hgg hgh hn hfa hse hn9 w hk
 exact dset_8 h0 h1 h2 h3 h4 h5 h6 h7 hx hq hm hgg hgh hn hfa hse hn9 w hk
end Go.Proofs.YtcaeaejefdhloaaGreat
