/- Book: what it holds; a list that is kept. -/
import Derived.Test.YtplhfbflgjnjmaaGreatDoorBook0
import Derived.Test.YtplhfbflgjnjmaaGreatDoorAppW
namespace Go.Proofs.YtplhfbflgjnjmaaGreatDoor
open Go.ChangeShapes Go.WideShapes Go.ChangeAt Go.RowKit

/-- The cells of k lists that are held. -/
def held (L G : Nat → Value) : Nat → List Value
  | 0 => []
  | k + 1 => held L G k ++ [L k, G k, .int .i64 ((k : Int) + 1)]
theorem held_length (L G : Nat → Value) : ∀ k, (held L G k).length = k * 3
  | 0 => rfl
  | k + 1 => by rw [held, List.length_append, held_length L G k]; simp; omega
theorem held_get (L G : Nat → Value) : ∀ {k i : Nat}, i < k → (held L G k)[i * 3]? = some (L i) ∧ (held L G k)[i * 3 + 1]? = some (G i) ∧ (held L G k)[i * 3 + 2]? = some (.int .i64 ((i : Int) + 1))
  | k + 1, i, h => by
    have hl := held_length L G k
    by_cases hik : i < k
    · obtain ⟨h1, h2, h3⟩ := held_get L G hik
      rw [held, List.getElem?_append_left (by omega), List.getElem?_append_left (by omega), List.getElem?_append_left (by omega)]
      exact ⟨h1, h2, h3⟩
    · obtain rfl : i = k := by omega
      rw [held, List.getElem?_append_right (by omega), List.getElem?_append_right (by omega), List.getElem?_append_right (by omega), hl]
      simp [show i * 3 + 1 - i * 3 = 1 by omega, show i * 3 + 2 - i * 3 = 2 by omega]
theorem held_congr {L L' G G' : Nat → Value} : ∀ {k : Nat}, (∀ i, i < k → L i = L' i ∧ G i = G' i) → held L G k = held L' G' k
  | 0, _ => rfl
  | k + 1, h => by rw [held, held, held_congr (k := k) fun i hi => h i (by omega), (h k (by omega)).1, (h k (by omega)).2]
/-- A book in block B: how many are kept, and the slice of those of bytes. -/
def BookAt (w : World) (B n : Nat) (vb : Value) : Prop :=
  w.cell? ⟨B, 0, none⟩ = some (.int .i64 n) ∧ w.cell? ⟨B, 1, none⟩ = some vb ∧ (∀ j, 2 ≤ j → j < 18 → w.cell? ⟨B, j, none⟩ = some (.slice none 0 0)) ∧ ∀ j, j < 18 → w.frozen? ⟨B, j, none⟩ = false
theorem BookAt.lt {w : World} {B n : Nat} {vb : Value} (h : BookAt w B n vb) : B < w.heap.size := World.block_lt_of_cell? (a := ⟨B, 0, none⟩) _ h.1
theorem BookAt.kept {w w' : World} {B n : Nat} {vb : Value} (h : BookAt w B n vb) (hb : w'.heap[B]? = w.heap[B]?) : BookAt w' B n vb :=
  ⟨(World.cell?_of_block (w := w) hb).trans h.1, (World.cell?_of_block (w := w) hb).trans h.2.1, fun j h1 h2 => (World.cell?_of_block (w := w) hb).trans (h.2.2.1 j h1 h2), fun j hj => (World.frozen?_of_block (w := w) hb).trans (h.2.2.2 j hj)⟩
theorem BookAt.grown {w w' : World} {B n : Nat} {vb : Value} {row : Option Nat} (h : BookAt w B n vb) (hg : w.grownBy w' row) (hr : row ≠ some B) : BookAt w' B n vb := h.kept (hg.block B h.lt (fun e => hr e.symm))
theorem BookAt.set0 {w : World} {B n : Nat} {vb : Value} (h : BookAt w B n vb) (m : Nat) : BookAt (w.setCell ⟨B, 0, none⟩ (.int .i64 m)) B m vb :=
  ⟨by rw [World.cell?_setCell_same (h := h.1)], by rw [World.cell?_setCell_other _ _ _ _ (by intro h; injection h; omega), h.2.1], fun j h1 h2 => by rw [World.cell?_setCell_other _ _ _ _ (by intro h; injection h; omega), h.2.2.1 j h1 h2], fun j hj => by simpa using h.2.2.2 j hj⟩
theorem BookAt.set1 {w : World} {B n : Nat} {vb : Value} (h : BookAt w B n vb) (v : Value) : BookAt (w.setCell ⟨B, 1, none⟩ v) B n v :=
  ⟨by rw [World.cell?_setCell_other _ _ _ _ (by intro h; injection h; omega), h.1], by rw [World.cell?_setCell_same (h := h.2.1)], fun j h1 h2 => by rw [World.cell?_setCell_other _ _ _ _ (by intro h; injection h; omega), h.2.2.1 j h1 h2], fun j hj => by simpa using h.2.2.2 j hj⟩
theorem heap_other (w : World) (a : Addr) (v : Value) (k : Nat) (h : k ≠ a.block) : (w.setCell a v).heap[k]? = w.heap[k]? := Below.heap_setCell w a v k h
theorem infoH : (Tryz.prog.info? 72).map (fun i => (i.size, i.bytes)) = some (3, 56) ∧ ((Tryz.prog.info? 72).bind (·.zero)).map (fun z => z.cells.size) = some 3 := ⟨by kernel_rfl, by kernel_rfl⟩
theorem infoH_parts : ∃ i z, Tryz.prog.info? 72 = some i ∧ i.zero = some z ∧ i.size = 3 ∧ i.bytes = 56 ∧ z.cells.size = 3 := by
  obtain ⟨h1, h2⟩ := infoH
  cases hq : Tryz.prog.info? 72 with
  | none => rw [hq] at h1; cases h1
  | some i =>
    rw [hq] at h1 h2
    simp only [Option.map_some, Option.some.injEq, Prod.mk.injEq] at h1
    cases hz : i.zero with
    | none => simp [hz] at h2
    | some z => exact ⟨i, z, rfl, hz, h1.1, h1.2, by simpa [hz] using h2⟩
theorem three_new (w : World) (x y z : Value) (t : TypeId) : ∀ (j : Nat) (u : Value), [x, y, z][j]? = some u → (w.alloc (.cells #[x, y, z] t)).cell? ((⟨w.heap.size, 0, none⟩ : Addr).add j) = some u := by
  intro j u h
  match j, h with
  | 0, h => simp at h; subst h; simp [Addr.add]
  | 1, h => simp at h; subst h; simp [Addr.add]
  | 2, h => simp at h; subst h; simp [Addr.add]
  | j + 3, h => simp at h
theorem src_three (w : World) (a : Option Addr) (n c : Nat) (z : Int) (t : TypeId) : SrcV (w.alloc (.cells #[.slice a n c, .slice none 0 0, .int .i64 z] t)) 3 (.slice (some ⟨w.heap.size, 0, none⟩) 1 1) 1 [.slice a n c, .slice none 0 0, .int .i64 z] := by
  refine ⟨_, 1, rfl, rfl, fun u hu => ?_, (fun h => by cases h), fun ad had j u hu => ?_⟩
  · simp only [List.mem_cons, List.not_mem_nil, or_false] at hu
    rcases hu with rfl | rfl | rfl <;> rfl
  · cases had
    exact three_new w _ _ _ t j u hu
/-- A slice, by its parts. -/
def IsSl (v : Value) : Prop := ∃ a n c, v = .slice a n c
theorem OwnV.sl {w : World} {base : Nat} {e : TypeId} {size : Nat} {v : Value} {n : Nat} {xs : List Value} (h : OwnV w base e size v n xs) : ∃ a c, v = .slice a n c := by
  rcases h.2 with ⟨rfl, rfl⟩ | ⟨g, o, cap, cur, h, _⟩
  · exact ⟨_, _, rfl⟩
  · exact ⟨_, _, h⟩
theorem lies_apart {X w2 : World} {v v2 : Value} {n m g : Nat} (h : Lies X w2 v v2 n m) (hv : v.ownBlock ≠ some g) (hg : g < X.heap.size) : v2.ownBlock ≠ some g := by
  rcases h with ⟨b, o, cap, rfl, rfl⟩ | ⟨h, _⟩ | ⟨_, rfl, _⟩
  · exact hv
  · rw [h]
    intro e
    cases e
    exact Nat.lt_irrefl _ hg
  · exact hv
theorem keep_fin {w w1 X w2 : World} {B base k n2 : Nat} {vb v2 : Value} {ys : List Value} (hB : base ≤ B) (hlt : B < w.heap.size) (hne : vb.ownBlock ≠ some B) (hg1 : w.grownBy w1 (some B)) (hs1 : w1.heap.size = w.heap.size) (hX : Below w1.heap.size w1 X) (hvb : ∀ g, vb.ownBlock = some g → base ≤ g)
    (hg2 : X.grownBy w2 vb.ownBlock) (hl2 : Lies X w2 vb v2 k 1) (hbk : BookAt w2 B n2 vb) (ho2 : OwnV w2 base 72 3 v2 (k + 1) ys) :
    BookAt (w2.setCell ⟨B, 1, none⟩ v2) B n2 v2 ∧ OwnV (w2.setCell ⟨B, 1, none⟩ v2) base 72 3 v2 (k + 1) ys ∧ v2.ownBlock ≠ some B ∧ Below base w (w2.setCell ⟨B, 1, none⟩ v2) ∧
      (∀ g, g < w.heap.size → g ≠ B → vb.ownBlock ≠ some g → (w2.setCell ⟨B, 1, none⟩ v2).heap[g]? = w.heap[g]? ∧ v2.ownBlock ≠ some g) := by
  have hXs := hX.size
  have hn2 := lies_apart hl2 hne (by omega)
  have hset : w2.grownBy (w2.setCell ⟨B, 1, none⟩ v2) (some B) := ⟨rfl, rfl, rfl, by simp, fun g _ hg => heap_other w2 _ _ g (fun e => hg (by rw [e]))⟩
  refine ⟨hbk.set1 v2, OwnV.kept ho2 hset (.inr hn2), hn2, ?_, fun g hg hgB hgv => ⟨?_, lies_apart hl2 hgv (by omega)⟩⟩
  · have h1 : Below base w w1 := (Below.refl base w).grown hg1 (by omega) (fun k hk => by cases hk; exact hB)
    have h2 : Below base w X := h1.trans (hX.mono (by omega))
    exact (h2.grown hg2 (by omega) hvb).setCell (p := ⟨B, 1, none⟩) hB v2
  · rw [heap_other w2 _ _ g hgB, hg2.block g (by omega) (fun e => hgv e.symm), hX.block g (by omega), hg1.block g hg (fun e => hgB (by cases e; rfl))]
set_option maxRecDepth 20000 in
set_option maxHeartbeats 3000000 in
theorem keep_any (w : World) (B base k : Nat) (vb : Value) (L G : Nat → Value) (a : Option Addr) (n c : Nat) (hb : BookAt w B k vb) (ho : OwnV w base 72 3 vb k (held L G k)) (hne : vb.ownBlock ≠ some B) (hk : k ≤ 100) (hB : base ≤ B) (hL : L k = .slice a n c) (hG : G k = .slice none 0 0) :
    Calls Tryz.prog 25 #[.pointer (some ⟨B, 0, none⟩), .slice a n c] w fun e w' => e = .returned (.tuple #[]) ∧ ∃ vb', BookAt w' B (k + 1) vb' ∧ OwnV w' base 72 3 vb' (k + 1) (held L G (k + 1)) ∧ vb'.ownBlock ≠ some B ∧
      Below base w w' ∧ (∀ g, g < w.heap.size → g ≠ B → vb.ownBlock ≠ some g → w'.heap[g]? = w.heap[g]? ∧ vb'.ownBlock ≠ some g) := by
  obtain ⟨i0, z0, hi, hz0, hz1, hz2, hz3⟩ := infoH_parts
  have HI := Lib.hid hi
  have hlt := hb.lt
  have hk0 : (k : Int) ≤ 100 := by omega
  have HB0 := Lib.hid hb
  have hvb : IsSl vb := by
    rcases ho.2 with ⟨h, _⟩ | ⟨g, o, cap, cur, h, _⟩
    · exact ⟨_, _, _, h⟩
    · exact ⟨_, _, _, h⟩
  have HO := Lib.hid ho
  have hs : base ≤ w.heap.size := by omega
  obtain ⟨c0, c1, -, cf⟩ := hb
  have f0 := cf 0 (by omega)
  have f1 := cf 1 (by omega)
  clear cf hi ho
  obtain ⟨va, vn, vc, rfl⟩ := hvb
  go_enter Tryz.func25, Tryz.ntmps25
  go_wp2_with fail
  obtain ⟨w1, e1⟩ : ∃ w1, w1 = w.setCell ⟨B, 0, none⟩ (.int .i64 ((k : Int) + 1)) := ⟨_, rfl⟩
  have hB1 : BookAt w1 B (k + 1) (.slice va vn vc) := by rw [e1]; exact HB0.out.set0 (k + 1)
  have hs1 : w1.heap.size = w.heap.size := by rw [e1]; simp
  have hg1 : w.grownBy w1 (some B) := by
    rw [e1]
    exact ⟨rfl, rfl, rfl, by simp, fun g _ hg => heap_other w _ _ g (fun e => hg (by rw [e]))⟩
  have hO1 : OwnV w1 base 72 3 (.slice va vn vc) k (held L G k) := OwnV.kept HO.out hg1 (.inr hne)
  have HB1 := Lib.hid hB1
  have HO1 := Lib.hid (fun (W : World) (h : Below w1.heap.size w1 W) => OwnV.later hO1 h)
  have HBK := Lib.hid (fun (W : World) (h : Below w1.heap.size w1 W) => BookAt.kept hB1 (h.block B hB1.lt))
  have HNE := Lib.hid hne
  have HG1 := Lib.hid hg1
  have HS1 := Lib.hid hs1
  have HL := Lib.hid hL
  have HGG := Lib.hid hG
  rw [← e1]
  obtain ⟨d0, d1, -, df⟩ := hB1
  have g0 := df 0 (by omega)
  have g1 := df 1 (by omega)
  have hlt1 : B < w1.heap.size := by omega
  have hbs1 : base ≤ w1.heap.size := by omega
  have HSRC := Lib.hid (fun (w : World) => src_three w a n c ((k : Int) + 1) 72)
  have e9 : ((k + 1 : Nat) : Int) = (k : Int) + 1 := by omega
  rw [e9] at d0
  clear c0 c1 f0 f1 e1 df hO1 hg1 hs1 hL hG HB0 HO e9
  go_region_law (first
    | (refine step_append_W rfl (.tmp 15) (.tmp 22) 36 rfl base 72 i0 z0 3 56 Tryz.underlying36 HI.out hz0 hz1 hz2 hz3 (.slice va vn vc) k (held L G k) rfl (HO1.out _ ((Below.refl _ _).drew.alloc (Nat.le_refl _) _)) (.slice (some ⟨w1.heap.size, 0, none⟩) 1 1) 1 [.slice a n c, .slice none 0 0, .int .i64 ((k : Int) + 1)] rfl (HSRC.out w1.drew) (by unfold maxLen; omega) (by omega) (by simp; omega) ?_
       intro v2 w2 ho2 hg2 hl2
       obtain ⟨a2, c2, rfl⟩ := ho2.sl
       have hbk2 := (HBK.out _ ((Below.refl _ _).drew.alloc (Nat.le_refl _) _)).grown hg2 HNE.out
       have HBK2 := Lib.hid hbk2
       have d2 := hbk2.2.1
       have g2 := hbk2.2.2.2 1 (by omega)
       clear hbk2
       have HO2 := Lib.hid ho2
       have HG2 := Lib.hid hg2
       have HL2 := Lib.hid hl2
       clear ho2 hg2 hl2))
  all_goals
    have hf := keep_fin hB hlt HNE.out HG1.out HS1.out (by first | exact (Below.refl _ _).drew.alloc (Nat.le_refl _) _ | exact ((Below.refl _ _).alloc (Nat.le_refl _) _).drew) (fun g hg => (OwnV.lt (HO1.out _ (Below.refl _ _)) g hg).1) HG2.out HL2.out HBK2.out HO2.out
    go_end0
    refine ⟨rfl, _, hf.1, ?_, hf.2.2⟩
    rw [held, HL.out, HGG.out]
    exact hf.2.1
end Go.Proofs.YtplhfbflgjnjmaaGreatDoor
