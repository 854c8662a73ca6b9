/- Long numbers in memory: a block of four words; classes of worlds in which these stand, for regions that draw their order and call functions that make memory. -/
import Derived.Test.YtdhkkigijcggmaaLimbsShift
import Derived.Deep.Quiet
namespace Go.Proofs.Ytdhkkigijcggmaa
open Go.ChangeShapes Go.WideShapes Go.ChangeAt Go.RowKit

/-- Block b holds the number x. -/
def NumAt (w : World) (b x : Nat) : Prop := WAt w b (dgt W64 x)
theorem NumAt.lt {w : World} {b x : Nat} (h : NumAt w b x) : b < w.heap.size := World.block_lt_of_cell? (a := ⟨b, 0, none⟩) _ (h 0 (by omega))
theorem NumAt.new (w : World) (x b : Nat) (t : TypeId) (hb : b = w.heap.size) : NumAt (w.alloc (.cells #[.int .u64 (dgt W64 x 0), .int .u64 (dgt W64 x 1), .int .u64 (dgt W64 x 2), .int .u64 (dgt W64 x 3)] t)) b x := by
  subst hb
  exact WAt.new w _ t
theorem NumAt.alloc {w : World} {b x : Nat} (h : NumAt w b x) (o : Obj) : NumAt (w.alloc o) b x := WAt.alloc h o
theorem NumAt.later {w w' : World} {b x : Nat} (hb : Below w.heap.size w w') (h : NumAt w b x) : NumAt w' b x := fun j hj => (hb.cell (p := ⟨b, j, none⟩) h.lt).trans (h j hj)
theorem NumAt.drewN {w : World} {b x : Nat} (h : NumAt w b x) (n : Nat) : NumAt (w.drewN n) b x := h
theorem NumAt.drew1 {w : World} {b x : Nat} (h : NumAt w b x) : NumAt w.drew b x := h
theorem below_drew {w0 w : World} (h : Below w0.heap.size w0 w) : Below w0.heap.size w0 w.drew := h.drew
theorem num4 {w : World} {b x : Nat} (h : NumAt w b x) : w.cell? ⟨b, 0, none⟩ = some (.int .u64 (dgt W64 x 0)) ∧ w.cell? ⟨b, 1, none⟩ = some (.int .u64 (dgt W64 x 1)) ∧ w.cell? ⟨b, 2, none⟩ = some (.int .u64 (dgt W64 x 2)) ∧ w.cell? ⟨b, 3, none⟩ = some (.int .u64 (dgt W64 x 3)) :=
  ⟨h 0 (by omega), h 1 (by omega), h 2 (by omega), h 3 (by omega)⟩
theorem below_later {w0 w w' : World} (h : Below w0.heap.size w0 w) (hb : Below w.heap.size w w') : Below w0.heap.size w0 w' := h.trans (hb.mono h.size)
theorem below_new {w0 w : World} (h : Below w0.heap.size w0 w) (o : Obj) : Below w0.heap.size w0 (w.alloc o) := h.alloc h.size o

/-- Four words are a number. -/
theorem num_of_ints (x0 x1 x2 x3 : Int) (h0 : 0 ≤ x0 ∧ x0 ≤ 18446744073709551615) (h1 : 0 ≤ x1 ∧ x1 ≤ 18446744073709551615) (h2 : 0 ≤ x2 ∧ x2 ≤ 18446744073709551615) (h3 : 0 ≤ x3 ∧ x3 ≤ 18446744073709551615) :
    ∃ a : Nat, a < M256 ∧ x0 = ((dgt W64 a 0 : Nat) : Int) ∧ x1 = ((dgt W64 a 1 : Nat) : Int) ∧ x2 = ((dgt W64 a 2 : Nat) : Int) ∧ x3 = ((dgt W64 a 3 : Nat) : Int) := by
  have hL : ∀ j, j < 4 → (fun j => [x0.toNat, x1.toNat, x2.toNat, x3.toNat].getD j 0) j < W64 := by
    intro j hj
    unfold W64
    have : j = 0 ∨ j = 1 ∨ j = 2 ∨ j = 3 := by omega
    rcases this with rfl | rfl | rfl | rfl <;> simp <;> omega
  have hd := dgt_valn W64_pos hL
  have hl := valn_lt hL
  rw [W64_pow] at hl
  refine ⟨_, hl, ?_, ?_, ?_, ?_⟩
  · rw [hd 0 (by omega)]; simp; omega
  · rw [hd 1 (by omega)]; simp; omega
  · rw [hd 2 (by omega)]; simp; omega
  · rw [hd 3 (by omega)]; simp; omega

/-- The worlds of a class. -/
structure Wd (F : World → Prop) where
  world : World
  fact : F world
theorem wp_region_class {P : Program} {F : World → Prop} {id : Nat} {Q : Exit → Act → World → Prop} {a : Act} {w : World} {l : List Oper} (hm : P.follows .mixedOrders = true) (hB : Region.lexB .any l.toArray = true) (hF : F { w with drawn := w.drawn + 1 })
    (h : wpQuiet P l.toArray (fun w' => ∃ x : Wd F, w' = x.world) (fun a' => ∀ w', (∃ x : Wd F, w' = x.world) → Q .normal a' w') l a) : (Code.region id l.toArray true).wp P Q a w :=
  wp_region_quiet (C := fun w' => ∃ x : Wd F, w' = x.world) hm hB ⟨⟨_, hF⟩, rfl⟩ (by simpa using h)
/-- The class of the worlds that are later than w and in which these numbers stand. -/
theorem num_class (w W : World) (L : List (Nat × Nat)) (h : ∀ p ∈ L, NumAt W p.1 p.2) (hb : Below w.heap.size w W) :
    ∃ F : World → Prop, F { W with drawn := W.drawn + 1 } ∧ (∀ w1 w2, F w1 → Below w1.heap.size w1 w2 → F w2) ∧ (∀ w1, F w1 → (∀ p ∈ L, NumAt w1 p.1 p.2) ∧ Below w.heap.size w w1) ∧ Nonempty (Wd F) :=
  ⟨fun w1 => (∀ p ∈ L, NumAt w1 p.1 p.2) ∧ Below w.heap.size w w1, ⟨h, hb.drew⟩, fun _ _ h1 h2 => ⟨fun p hp => (h1.1 p hp).later h2, below_later h1.2 h2⟩, fun _ h => h, ⟨⟨W, h, hb⟩⟩⟩

/-- A region that draws its order, of reads of these numbers and of calls that make memory. -/
theorem wp_region_num {P : Program} {id : Nat} {Q : Exit → Act → World → Prop} {a : Act} {W : World} {l : List Oper} (w : World) (L : List (Nat × Nat)) (hm : P.follows .mixedOrders = true) (hB : Region.lexB .any l.toArray = true)
    (h : ∀ p ∈ L, NumAt W p.1 p.2) (hb : Below w.heap.size w W)
    (hq : ∀ F : World → Prop, Nonempty (Wd F) → (∀ w1 w2, F w1 → Below w1.heap.size w1 w2 → F w2) → (∀ w1, F w1 → (∀ p ∈ L, NumAt w1 p.1 p.2) ∧ Below w.heap.size w w1) →
      wpQuiet P l.toArray (fun w' => ∃ x : Wd F, w' = x.world) (fun a' => ∀ w', (∃ x : Wd F, w' = x.world) → Q .normal a' w') l a) : (Code.region id l.toArray true).wp P Q a W := by
  obtain ⟨F, hF, hcl, hfa, hne⟩ := num_class w W L h hb
  exact wp_region_class hm hB hF (hq F hne hcl hfa)

theorem to_class {P : Program} {F : World → Prop} (hcl : ∀ w1 w2, F w1 → Below w1.heap.size w1 w2 → F w2) {f : FuncId} {args : Array Value} {x : Wd F} {v : Value}
    (h : Calls P f args x.world fun e w' => e = .returned v ∧ Below x.world.heap.size x.world w') : Calls P f args x.world fun e w'' => e = .returned v ∧ ∃ y : Wd F, w'' = y.world :=
  h.mono fun _ w'' ⟨he, hb⟩ => ⟨he, ⟨w'', hcl _ _ x.fact hb⟩, rfl⟩
theorem to_class_num {P : Program} {F : World → Prop} (hcl : ∀ w1 w2, F w1 → Below w1.heap.size w1 w2 → F w2) {f : FuncId} {args : Array Value} {x : Wd F} {k : Nat}
    (h : Calls P f args x.world fun e w' => e = .returned (numV k) ∧ Below x.world.heap.size x.world w') :
    Calls P f args x.world fun e w'' => e = .returned (.agg #[.int .u64 (dgt W64 k 0), .int .u64 (dgt W64 k 1), .int .u64 (dgt W64 k 2), .int .u64 (dgt W64 k 3)]) ∧ ∃ y : Wd F, w'' = y.world := to_class hcl h
theorem to_class_same {P : Program} {F : World → Prop} {f : FuncId} {args : Array Value} {x : Wd F} {v : Value}
    (h : Calls P f args x.world fun e w' => e = .returned v ∧ x.world = w') : Calls P f args x.world fun e w'' => e = .returned v ∧ ∃ y : Wd F, w'' = y.world :=
  h.mono fun _ _ ⟨he, hb⟩ => ⟨he, x, hb.symm⟩

/-! ### Calls with written-out numbers -/
theorem of_lit (k : Nat) (n : Int) (h : n = k) (hk : k < W64) (w : World) : Calls Try.prog 16 #[.int .u64 n] w fun e w' => e = .returned (numV k) ∧ Below w.heap.size w w' := by
  subst h
  exact of_any k hk w
theorem of_int (n : Int) (h0 : 0 ≤ n) (h1 : n < 18446744073709551616) (w : World) : Calls Try.prog 16 #[.int .u64 n] w fun e w' => e = .returned (.agg #[.int .u64 (dgt W64 n.toNat 0), .int .u64 (dgt W64 n.toNat 1), .int .u64 (dgt W64 n.toNat 2), .int .u64 (dgt W64 n.toNat 3)]) ∧ Below w.heap.size w w' :=
  of_lit n.toNat n (by omega) (by unfold W64; omega) w
theorem eq4 (a b c d a' b' c' d' : Int) (w : World) : (binOp .eql 24 (.agg #[.int .u64 a, .int .u64 b, .int .u64 c, .int .u64 d]) (.agg #[.int .u64 a', .int .u64 b', .int .u64 c', .int .u64 d'])).run Try.prog w = .ok (.bool (a == a' && (b == b' && (c == c' && d == d')))) w := by
  rw [run_eql_arr w 24 22 .u64 4 Try.underlying24 Try.underlying22 (fun _ => by kernel_rfl) (fun _ => by kernel_rfl) _ _ (fun i => [a, b, c, d].getD i 0) (fun i => [a', b', c', d'].getD i 0)
    (fun i hi => by match i, hi with | 0, _ => rfl | 1, _ => rfl | 2, _ => rfl | 3, _ => rfl) (fun i hi => by match i, hi with | 0, _ => rfl | 1, _ => rfl | 2, _ => rfl | 3, _ => rfl)]
  simp [List.range_succ]

/-! ### A number that is written over -/
theorem FreeN.later {w w' : World} {b n : Nat} (h : FreeN w b n) (hb : Below w.heap.size w w') (hB : b < w.heap.size) : FreeN w' b n := fun j hj => (hb.frozen (p := ⟨b, j, none⟩) hB).trans (h j hj)
theorem FreeN.made (w : World) (c : Array Value) (t : TypeId) (n b : Nat) (hb : b = w.heap.size) : FreeN (w.alloc (.cells c t)) b n := by
  subst hb
  exact FreeN.new w c t n
theorem FreeN.drew1 {w : World} {b n : Nat} (h : FreeN w b n) : FreeN w.drew b n := h
theorem FreeN.set4 {w : World} {b n : Nat} (h : FreeN w b n) (a0 a1 a2 a3 : Addr) (v0 v1 v2 v3 : Value) : FreeN ((((w.setCell a0 v0).setCell a1 v1).setCell a2 v2).setCell a3 v3) b n := (((h.set a0 v0).set a1 v1).set a2 v2).set a3 v3
theorem NumAt.set4 {w : World} {b x : Nat} (h : NumAt w b x) (y : Nat) :
    NumAt ((((w.setCell ⟨b, 0, none⟩ (.int .u64 (dgt W64 y 0))).setCell ⟨b, 1, none⟩ (.int .u64 (dgt W64 y 1))).setCell ⟨b, 2, none⟩ (.int .u64 (dgt W64 y 2))).setCell ⟨b, 3, none⟩ (.int .u64 (dgt W64 y 3))) b y := by
  refine WAt.congr ((((WAt.set h 0 (dgt W64 y 0)).set 1 (dgt W64 y 1)).set 2 (dgt W64 y 2)).set 3 (dgt W64 y 3)) ?_
  intro j hj
  have : j = 0 ∨ j = 1 ∨ j = 2 ∨ j = 3 := by omega
  rcases this with rfl | rfl | rfl | rfl <;> simp
theorem NumAt.other4 {w : World} {b c x : Nat} (h : NumAt w b x) (hc : b ≠ c) (v0 v1 v2 v3 : Value) :
    NumAt ((((w.setCell ⟨c, 0, none⟩ v0).setCell ⟨c, 1, none⟩ v1).setCell ⟨c, 2, none⟩ v2).setCell ⟨c, 3, none⟩ v3) b x := (((WAt.other h 0 v0 hc).other 1 v1 hc).other 2 v2 hc).other 3 v3 hc
theorem below_set4 {w0 w : World} {c : Nat} (h : Below w0.heap.size w0 w) (hc : w0.heap.size ≤ c) (v0 v1 v2 v3 : Value) :
    Below w0.heap.size w0 ((((w.setCell ⟨c, 0, none⟩ v0).setCell ⟨c, 1, none⟩ v1).setCell ⟨c, 2, none⟩ v2).setCell ⟨c, 3, none⟩ v3) := (((h.setCell hc v0).setCell hc v1).setCell hc v2).setCell hc v3
theorem num4f {w : World} {b x : Nat} (h : NumAt w b x) (f : FreeN w b 4) : w.cell? ⟨b, 0, none⟩ = some (.int .u64 (dgt W64 x 0)) ∧ w.cell? ⟨b, 1, none⟩ = some (.int .u64 (dgt W64 x 1)) ∧ w.cell? ⟨b, 2, none⟩ = some (.int .u64 (dgt W64 x 2)) ∧ w.cell? ⟨b, 3, none⟩ = some (.int .u64 (dgt W64 x 3)) ∧
    w.frozen? ⟨b, 0, none⟩ = false ∧ w.frozen? ⟨b, 1, none⟩ = false ∧ w.frozen? ⟨b, 2, none⟩ = false ∧ w.frozen? ⟨b, 3, none⟩ = false :=
  ⟨h 0 (by omega), h 1 (by omega), h 2 (by omega), h 3 (by omega), f 0 (by omega), f 1 (by omega), f 2 (by omega), f 3 (by omega)⟩
end Go.Proofs.Ytdhkkigijcggmaa
