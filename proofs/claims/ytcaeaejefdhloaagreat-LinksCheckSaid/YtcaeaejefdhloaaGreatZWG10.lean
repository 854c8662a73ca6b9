/- Long numbers in memory -/
import Derived.Test.YtcaeaejefdhloaaGreatZWG09
import Derived.Deep.Quiet
namespace Go.Proofs.YtcaeaejefdhloaaGreat
open Go.ChangeShapes Go.WideShapes Go.ChangeAt Go.RowKit
def NumAt (w : World) (b x : Nat) : Prop := WAt w b (jf jd x)
theorem NumAt.lt {w : World} {b x : Nat} (h : NumAt w b x) : b < w.heap.size := World.block_lt_of_cell? (a := ⟨b, 0, none⟩) _ (h 0 (by omega))
theorem NumAt.new (w : World) (x b : Nat) (t : TypeId) (hb : b = w.heap.size) : NumAt (w.alloc (.cells #[.int .u64 (jf jd x 0), .int .u64 (jf jd x 1), .int .u64 (jf jd x 2), .int .u64 (jf jd x 3)] t)) b x := by
 subst hb; exact WAt.new w _ t
theorem NumAt.alloc {w : World} {b x : Nat} (h : NumAt w b x) (o : Obj) : NumAt (w.alloc o) b x := WAt.alloc h o
theorem NumAt.later {w w' : World} {b x : Nat} (hb : Below w.heap.size w w') (h : NumAt w b x) : NumAt w' b x := fun j hj => (hb.cell (p := ⟨b, j, none⟩) h.lt).trans (h j hj)
theorem jy {w : World} {b x : Nat} (h : NumAt w b x) : w.cell? ⟨b, 0, none⟩ = some (.int .u64 (jf jd x 0)) ∧ w.cell? ⟨b, 1, none⟩ = some (.int .u64 (jf jd x 1)) ∧ w.cell? ⟨b, 2, none⟩ = some (.int .u64 (jf jd x 2)) ∧ w.cell? ⟨b, 3, none⟩ = some (.int .u64 (jf jd x 3)) :=
 ⟨h 0 (by omega), h 1 (by omega), h 2 (by omega), h 3 (by omega)⟩
theorem jk {w0 w w' : World} (h : Below w0.heap.size w0 w) (hb : Below w.heap.size w w') : Below w0.heap.size w0 w' := h.trans (hb.mono h.size)
structure Wd (F : World → Prop) where
 world : World
 fact : F world
theorem jn {w w' : World} {b x : Nat} (hb : Below w.heap.size w w') (h : RowKit.Hid (NumAt w b x)) : RowKit.Hid (NumAt w' b x) := Lib.hid (NumAt.later hb h.out)
theorem jr {F : World → Prop} {w : World} {b x : Nat} (hbl : ∀ w1, F w1 → Below w.heap.size w w1) (h : RowKit.Hid (NumAt w b x)) (j : Nat) (hj : j < 4) (X9 : Wd F) : X9.world.cell? ⟨b, j, none⟩ = some (.int .u64 (jf jd x j)) := (NumAt.later (hbl X9.world X9.fact) h.out) j hj
theorem jw {w0 w w' : World} (h : RowKit.Hid (Below w0.heap.size w0 w)) (hb : Below w.heap.size w w') : RowKit.Hid (Below w0.heap.size w0 w') := Lib.hid (jk h.out hb)
theorem js {P : Program} {F : World → Prop} (hcl : ∀ w1 w2, F w1 → Below w1.heap.size w1 w2 → F w2) {f : FuncId} {args : Array Value} {x : Wd F} {v : Value}
  (h : Calls P f args x.world fun e w' => e = .returned v ∧ Below x.world.heap.size x.world w') : Calls P f args x.world fun e w'' => e = .returned v ∧ ∃ y : Wd F, w'' = y.world :=
 h.mono fun _ w'' ⟨he, hb⟩ => ⟨he, ⟨w'', hcl _ _ x.fact hb⟩, rfl⟩
theorem qO (k : Nat) (n : Int) (h : n = k) (hk : k < jd) (w : World) : Calls Tryz.prog 49 #[.int .u64 n] w fun e w' => e = .returned (ji k) ∧ Below w.heap.size w w' := by
 subst h; exact of_any k hk w
theorem FreeN.later {w w' : World} {b n : Nat} (h : FreeN w b n) (hb : Below w.heap.size w w') (hB : b < w.heap.size) : FreeN w' b n := fun j hj => (hb.frozen (p := ⟨b, j, none⟩) hB).trans (h j hj)
theorem FreeN.made (w : World) (c : Array Value) (t : TypeId) (n b : Nat) (hb : b = w.heap.size) : FreeN (w.alloc (.cells c t)) b n := by
 subst hb; exact FreeN.new w c t n
theorem FreeN.set4 {w : World} {b n : Nat} (h : FreeN w b n) (a0 a1 a2 a3 : Addr) (v0 v1 v2 v3 : Value) : FreeN ((((w.setCell a0 v0).setCell a1 v1).setCell a2 v2).setCell a3 v3) b n := (((h.set a0 v0).set a1 v1).set a2 v2).set a3 v3
theorem NumAt.set4 {w : World} {b x : Nat} (h : NumAt w b x) (y : Nat) :
  NumAt ((((w.setCell ⟨b, 0, none⟩ (.int .u64 (jf jd y 0))).setCell ⟨b, 1, none⟩ (.int .u64 (jf jd y 1))).setCell ⟨b, 2, none⟩ (.int .u64 (jf jd y 2))).setCell ⟨b, 3, none⟩ (.int .u64 (jf jd y 3))) b y := by
 refine WAt.congr ((((WAt.set h 0 (jf jd y 0)).set 1 (jf jd y 1)).set 2 (jf jd y 2)).set 3 (jf jd y 3)) ?_; intro j hj; have : j = 0 ∨ j = 1 ∨ j = 2 ∨ j = 3 := by omega
 rcases this with rfl | rfl | rfl | rfl <;> simp
theorem NumAt.other4 {w : World} {b c x : Nat} (h : NumAt w b x) (hc : b ≠ c) (v0 v1 v2 v3 : Value) :
  NumAt ((((w.setCell ⟨c, 0, none⟩ v0).setCell ⟨c, 1, none⟩ v1).setCell ⟨c, 2, none⟩ v2).setCell ⟨c, 3, none⟩ v3) b x := (((WAt.other h 0 v0 hc).other 1 v1 hc).other 2 v2 hc).other 3 v3 hc
theorem jp {w0 w : World} {c : Nat} (h : Below w0.heap.size w0 w) (hc : w0.heap.size ≤ c) (v0 v1 v2 v3 : Value) :
  Below w0.heap.size w0 ((((w.setCell ⟨c, 0, none⟩ v0).setCell ⟨c, 1, none⟩ v1).setCell ⟨c, 2, none⟩ v2).setCell ⟨c, 3, none⟩ v3) := (((h.setCell hc v0).setCell hc v1).setCell hc v2).setCell hc v3
theorem jC {w : World} {b x : Nat} (h : NumAt w b x) (f : FreeN w b 4) : w.cell? ⟨b, 0, none⟩ = some (.int .u64 (jf jd x 0)) ∧ w.cell? ⟨b, 1, none⟩ = some (.int .u64 (jf jd x 1)) ∧ w.cell? ⟨b, 2, none⟩ = some (.int .u64 (jf jd x 2)) ∧ w.cell? ⟨b, 3, none⟩ = some (.int .u64 (jf jd x 3)) ∧
  w.frozen? ⟨b, 0, none⟩ = false ∧ w.frozen? ⟨b, 1, none⟩ = false ∧ w.frozen? ⟨b, 2, none⟩ = false ∧ w.frozen? ⟨b, 3, none⟩ = false :=
 ⟨h 0 (by omega), h 1 (by omega), h 2 (by omega), h 3 (by omega), f 0 (by omega), f 1 (by omega), f 2 (by omega), f 3 (by omega)⟩
end Go.Proofs.YtcaeaejefdhloaaGreat
