/- Links -/
import Derived.Test.YtmijablfjigbhaaGreatDoorSZVG35
namespace Go.Proofs.YtmijablfjigbhaaGreatDoor
open Go.ChangeShapes Go.WideShapes Go.ChangeAt Go.RowKit
def G6 : Array Value := #[.int .u8 0, .int .u8 0, .slice none 0 0, .int .u64 0, .int .u64 0, .int .u64 0, .int .u64 0, .int .u64 0, .int .u64 0, .int .u64 0, .int .u64 0]
theorem qV : G6.all (·.oneCell') = true := by unfold G6; simp [Value.oneCell']
theorem Z7.new0 (w : World) (fr tt : Nat) (bv : Value) (t : TypeId) : Z7 (w.alloc (.cells #[.int .u8 fr, .int .u8 tt, bv, .int .u64 0, .int .u64 0, .int .u64 0, .int .u64 0, .int .u64 0, .int .u64 0, .int .u64 0, .int .u64 0] t)) w.heap.size fr tt bv 0 0 := by
 have h := Z7.new w fr tt bv 0 0 t; simp only [show ((jf jd 0 0 : Nat) : Int) = 0 by rw [jI]; rfl, show ((jf jd 0 1 : Nat) : Int) = 0 by rw [jI]; rfl, show ((jf jd 0 2 : Nat) : Int) = 0 by rw [jI]; rfl, show ((jf jd 0 3 : Nat) : Int) = 0 by rw [jI]; rfl] at h; exact h
theorem yZ {P : Program} {l : List Oper} {o : Oper} {a : Act} {w w' : World} {K : Act → World → Prop} {Q : Exit → Act → World → Prop} {v : Value} (hw : Region.wanted o (yielded l.toArray a.tmps) = true) (h : (execOp a.eval o).run P w = .ok (.value v) w') (k : K (a.put o.dst v) w') : if Region.wanted o (yielded l.toArray a.tmps) = true then Oper.wp P o a w K Q else K (a.put o.dst undef) w := by
 rw [if_pos hw]; unfold Oper.wp; rw [h]; exact k
theorem ML {w : World} {b o x : Nat} (y : Nat) (h : X6 w b o x) : X6 ((((w.setCell ⟨b, o + 0, none⟩ (.int .u64 (jf jd y 0))).setCell ⟨b, o + 1, none⟩ (.int .u64 (jf jd y 1))).setCell ⟨b, o + 2, none⟩ (.int .u64 (jf jd y 2))).setCell ⟨b, o + 3, none⟩ (.int .u64 (jf jd y 3))) b o y := by
 intro j hj
 rcases (show j = 0 ∨ j = 1 ∨ j = 2 ∨ j = 3 by omega) with rfl | rfl | rfl | rfl
 ·rw [World.cell?_setCell_other _ _ _ _ (by intro h; injection h; omega), World.cell?_setCell_other _ _ _ _ (by intro h; injection h; omega), World.cell?_setCell_other _ _ _ _ (by intro h; injection h; omega)]; exact World.cell?_setCell_same _ _ _ (h 0 (by decide))
 ·rw [World.cell?_setCell_other _ _ _ _ (by intro h; injection h; omega), World.cell?_setCell_other _ _ _ _ (by intro h; injection h; omega)]; exact World.cell?_setCell_same _ _ _ (by rw [World.cell?_setCell_other _ _ _ _ (by intro h; injection h; omega)]; exact h 1 (by decide))
 ·rw [World.cell?_setCell_other _ _ _ _ (by intro h; injection h; omega)]; exact World.cell?_setCell_same _ _ _ (by rw [World.cell?_setCell_other _ _ _ _ (by intro h; injection h; omega), World.cell?_setCell_other _ _ _ _ (by intro h; injection h; omega)]; exact h 2 (by decide))
 ·exact World.cell?_setCell_same _ _ _ (by rw [World.cell?_setCell_other _ _ _ _ (by intro h; injection h; omega), World.cell?_setCell_other _ _ _ _ (by intro h; injection h; omega), World.cell?_setCell_other _ _ _ _ (by intro h; injection h; omega)]; exact h 3 (by decide))
theorem ZY {w : World} {b o p x : Nat} (v0 v1 v2 v3 : Value) (h : X6 w b o x) (hn : p + 4 ≤ o ∨ o + 4 ≤ p) : X6 ((((w.setCell ⟨b, p + 0, none⟩ v0).setCell ⟨b, p + 1, none⟩ v1).setCell ⟨b, p + 2, none⟩ v2).setCell ⟨b, p + 3, none⟩ v3) b o x := fun j hj => by
 rw [World.cell?_setCell_other _ _ _ _ (by intro h; injection h; omega), World.cell?_setCell_other _ _ _ _ (by intro h; injection h; omega), World.cell?_setCell_other _ _ _ _ (by intro h; injection h; omega), World.cell?_setCell_other _ _ _ _ (by intro h; injection h; omega)]; exact h j hj
theorem zM {w : World} {b o p : Nat} {v : Value} (v0 v1 v2 v3 : Value) (h : w.cell? ⟨b, o, none⟩ = some v) (hn : o < p) : ((((w.setCell ⟨b, p + 0, none⟩ v0).setCell ⟨b, p + 1, none⟩ v1).setCell ⟨b, p + 2, none⟩ v2).setCell ⟨b, p + 3, none⟩ v3).cell? ⟨b, o, none⟩ = some v := by
 rw [World.cell?_setCell_other _ _ _ _ (by intro h; injection h; omega), World.cell?_setCell_other _ _ _ _ (by intro h; injection h; omega), World.cell?_setCell_other _ _ _ _ (by intro h; injection h; omega), World.cell?_setCell_other _ _ _ _ (by intro h; injection h; omega)]; exact h
theorem Z7.sign {w : World} {b fr tt : Nat} {bv : Value} {c s : Nat} (h : Z7 w b fr tt bv c s) (x y : Nat) : Z7 ((((((((w.setCell ⟨b, 3, none⟩ (.int .u64 (jf jd x 0))).setCell ⟨b, 4, none⟩ (.int .u64 (jf jd x 1))).setCell ⟨b, 5, none⟩ (.int .u64 (jf jd x 2))).setCell ⟨b, 6, none⟩ (.int .u64 (jf jd x 3))).setCell ⟨b, 7, none⟩ (.int .u64 (jf jd y 0))).setCell ⟨b, 8, none⟩ (.int .u64 (jf jd y 1))).setCell ⟨b, 9, none⟩ (.int .u64 (jf jd y 2))).setCell ⟨b, 10, none⟩ (.int .u64 (jf jd y 3))) b fr tt bv x y :=
 ⟨zM (p := 7) _ _ _ _ (zM (p := 3) _ _ _ _ h.fr (by omega)) (by omega), zM (p := 7) _ _ _ _ (zM (p := 3) _ _ _ _ h.tt (by omega)) (by omega), zM (p := 7) _ _ _ _ (zM (p := 3) _ _ _ _ h.bv (by omega)) (by omega),
  ZY (p := 7) _ _ _ _ (ML x h.c) (by omega), ML y (ZY (p := 3) _ _ _ _ h.s (by omega)), (h.free.set4 _ _ _ _ _ _ _ _).set4 _ _ _ _ _ _ _ _⟩
def bF (gp gq gg secret : Nat) : Prop := Jq gp gg ∧ secret ≠ 0 ∧ 1 < gq ∧ secret < gq
instance (gp gq gg secret : Nat) : Decidable (bF gp gq gg secret) := by unfold bF; exact inferInstance
def WR (gp gq gg secret : Nat) (h : List Nat) : Nat := if bF gp gq gg secret then YF gp gq gg secret (zm gq secret h) h else 0
def VR (gp gq gg secret : Nat) (h : List Nat) : Nat := if bF gp gq gg secret then ZS gp gq gg secret (zm gq secret h) h else 0
def wR (gp gq gg secret : Nat) : Nat := if bF gp gq gg secret then 0 else 1
theorem CZ (gp gq gg secret : Nat) : wR gp gq gg secret = 0 ∨ wR gp gq gg secret = 1 := by unfold wR; split <;> simp
theorem DZ {gp gq gg secret : Nat} {h : List Nat} (hq : gq < jo) : WR gp gq gg secret h < jo := by
 unfold WR
 split
 ·next hc => unfold YF zu zB; exact Nat.lt_trans (Nat.mod_lt _ (by have := hc.2.2.1; omega)) hq
 ·decide
theorem BZ {gp gq gg secret : Nat} {h : List Nat} (hq : gq < jo) : VR gp gq gg secret h < jo := by
 unfold VR
 split
 ·next hc => unfold ZS; exact Nat.lt_trans (Nat.mod_lt _ (by have := hc.2.2.1; omega)) hq
 ·decide
theorem JI : (.agg #[.int .u64 0, .int .u64 0, .int .u64 0, .int .u64 0, .int .u64 0, .int .u64 0, .int .u64 0, .int .u64 0] : Value) = Ql 0 0 := by
 unfold Ql; simp only [jI]
 rfl
theorem qm : (Tryz.prog.info? 39).map (·.size) = some 8 := by kernel_rfl
structure Fm where
 fr : Nat
 tt : Nat
 b : List Nat
 c : Nat
 s : Nat
def Fm.v (X : Fm) (a : Option Addr) (cap : Nat) : Value := zy X.fr X.tt (.slice a X.b.length cap) X.c X.s
def oL (gp gq gg gh : Nat) (fa se : Int) (n : Nat) (ks : List (Nat × Nat)) (fr tt : Nat) (b : List Nat) (secret : Nat) : Nat :=
 if qk gp gq gg gh fa se n ks = false then 1 else if endsB n fr tt = false then 1 else if 65536 < b.length then 3 else wR gp gq gg secret
def Jb (gp gq gg gh : Nat) (fa se : Int) (n : Nat) (ks : List (Nat × Nat)) (fr tt : Nat) (b : List Nat) (secret : Nat) : Fm :=
 if oL gp gq gg gh fa se n ks fr tt b secret = 0 then ⟨fr, tt, b, WR gp gq gg secret (Jt fr tt b), VR gp gq gg secret (Jt fr tt b)⟩ else ⟨0, 0, [], 0, 0⟩
theorem Jm : (.agg G6 : Value) = Fm.v ⟨0, 0, [], 0, 0⟩ none 0 := by
 unfold Fm.v zy G6; simp only [jI, List.length_nil]
 rfl
theorem jO {P : Program} {fn : Func} {p t : Tmp} {ty : TypeId} (h : fn.results = #[.cell p ty, .tmp t]) (tmps : Array Value) (w : World) (g : Nat) (tt : TypeId) (cs : Array Value) (fr : Nat × Nat) (d : TypeDesc)
  (hp : tmps.getD p undef = .pointer (some ⟨g, 0, none⟩)) (hg : w.heap[g]? = some (.cells cs tt fr)) (hu : P.underlying ty = some d) (hd : (match d with | .struct _ | .array _ _ => true | _ => false) = true) (hi : (P.info? ty).map (·.size) = some cs.size) (v : Value) (hv : tmps.getD t undef = v) :
  (results fn tmps).run P w = .ok (.tuple #[.agg cs, v]) w := by
 have hp' : tmps[p]?.getD undef = .pointer (some ⟨g, 0, none⟩) := by simpa using hp
 have hv' : tmps[t]?.getD undef = v := by simpa using hv
 simp [results, h, hp', hv', asAddr, run_loadVar_row w g tt ty cs fr d hg hu hd hi]
end Go.Proofs.YtmijablfjigbhaaGreatDoor
