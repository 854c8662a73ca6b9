/- Book: lists are kept, one behind the other. -/
import Derived.Test.YtplhfbflgjnjmaaGreatDoorBook6
import Derived.Test.YtplhfbflgjnjmaaGreatDoorRefBytes
namespace Go.Proofs.YtplhfbflgjnjmaaGreatDoor
open Go.ChangeShapes Go.WideShapes Go.ChangeAt Go.RowKit

/-- k of K lists are kept. -/
structure Kp (w : World) (base B k K : Nat) (vb : Value) (L : Nat → Value) (N : Nat → Nat) (X : Nat → List Value) : Prop where
  book : BookAt w B k vb
  row : OwnV w base 72 3 vb k (held L (fun _ => .slice none 0 0) k)
  own : ∀ i, i < K → OwnV w base 5 1 (L i) (N i) (X i)
  notB : vb.ownBlock ≠ some B
  one : ∀ i, i < K → ∀ g, (L i).ownBlock = some g → g ≠ B ∧ vb.ownBlock ≠ some g
  two : ∀ i j, i < K → j < K → i ≠ j → ∀ g, (L i).ownBlock = some g → (L j).ownBlock ≠ some g
theorem Kp.next {w : World} {base B k K : Nat} {vb : Value} {L : Nat → Value} {N : Nat → Nat} {X : Nat → List Value} (h : Kp w base B k K vb L N X) (hk : k < K) (hK : K ≤ 100) (hB : base ≤ B) (v : Value) (hv : L k = v) :
    Calls Tryz.prog 15 #[.pointer (some ⟨B, 0, none⟩), v] w fun e w' => e = .returned (.tuple #[]) ∧ (∃ vb', Kp w' base B (k + 1) K vb' L N X) ∧ Below base w w' := by
  obtain ⟨a, c, hL⟩ := (h.own k hk).sl
  have hv' : v = .slice a (N k) c := by rw [← hv, hL]
  subst hv'
  refine (Bytes_any w B base k vb L (fun _ => .slice none 0 0) a (N k) c h.book h.row h.notB (by omega) hB hL rfl).mono ?_
  rintro e w' ⟨he, vb', h1, h2, h3, h4, h5⟩
  have hfar : ∀ i, i < K → ∀ g, (L i).ownBlock = some g → w'.heap[g]? = w.heap[g]? ∧ vb'.ownBlock ≠ some g := fun i hi g hg => h5 g (OwnV.lt (h.own i hi) g hg).2 (h.one i hi g hg).1 (h.one i hi g hg).2
  exact ⟨he, ⟨vb', h1, h2, fun i hi => OwnV.block (h.own i hi) (fun g hg => (hfar i hi g hg).1), h3, fun i hi g hg => ⟨(h.one i hi g hg).1, (hfar i hi g hg).2⟩, h.two⟩, h4⟩
theorem Kp.apart {w : World} {base B K : Nat} {vb : Value} {L : Nat → Value} {N : Nat → Nat} {X : Nat → List Value} (h : Kp w base B K K vb L N X) (hK : K ≤ 100) (hB : base ≤ B) (hN : ∀ i, i < K → N i ≤ 4000000) :
    Calls Tryz.prog 16 #[.pointer (some ⟨B, 0, none⟩)] w fun e w' => e = .returned (.bool true) ∧ Below base w w' :=
  Apart_any w B base K vb L (fun _ => .slice none 0 0) N X ⟨h.book, h.row, h.own⟩ ⟨h.notB, h.one, h.two⟩ hK hB (fun _ _ => rfl) hN
abbrev book0 : Array Value := #[.int .i64 0, .slice none 0 0, .slice none 0 0, .slice none 0 0, .slice none 0 0, .slice none 0 0, .slice none 0 0, .slice none 0 0, .slice none 0 0, .slice none 0 0, .slice none 0 0, .slice none 0 0, .slice none 0 0, .slice none 0 0, .slice none 0 0, .slice none 0 0, .slice none 0 0, .slice none 0 0]
theorem book_new (w : World) (t : TypeId) : BookAt (w.alloc (.cells book0 t)) w.heap.size 0 (.slice none 0 0) := by
  have h := heap_alloc_new w (.cells book0 t)
  have hc : ∀ j, (w.alloc (.cells book0 t)).cell? ⟨w.heap.size, j, none⟩ = book0[j]? := fun j => cell_of_row _ w.heap.size j book0 t (0, 0) h
  refine ⟨hc 0, hc 1, fun j h1 h2 => ?_, fun j _ => by simp⟩
  rw [hc]
  have hj : j = 2 ∨ j = 3 ∨ j = 4 ∨ j = 5 ∨ j = 6 ∨ j = 7 ∨ j = 8 ∨ j = 9 ∨ j = 10 ∨ j = 11 ∨ j = 12 ∨ j = 13 ∨ j = 14 ∨ j = 15 ∨ j = 16 ∨ j = 17 := by omega
  rcases hj with rfl | rfl | rfl | rfl | rfl | rfl | rfl | rfl | rfl | rfl | rfl | rfl | rfl | rfl | rfl | rfl <;> rfl
theorem Kp.start {w : World} {base K : Nat} {L : Nat → Value} {N : Nat → Nat} {X : Nat → List Value} (t : TypeId) (own : ∀ i, i < K → OwnV w base 5 1 (L i) (N i) (X i))
    (two : ∀ i j, i < K → j < K → i ≠ j → ∀ g, (L i).ownBlock = some g → (L j).ownBlock ≠ some g) : Kp (w.alloc (.cells book0 t)) base w.heap.size 0 K (.slice none 0 0) L N X :=
  ⟨book_new w t, ⟨rfl, .inl ⟨rfl, rfl⟩⟩, fun i hi => OwnV.later (own i hi) ((Below.refl _ _).alloc (Nat.le_refl _) _), fun e => (by simp [Value.ownBlock] at e), fun i hi g hg => ⟨fun e => by have := (OwnV.lt (own i hi) g hg).2; omega, fun e => (by simp [Value.ownBlock] at e)⟩, two⟩

/-! ### The same, of the program and of the reference -/
theorem long_both (l : List Nat) (hb : Bytes l) : ∃ z0 z1 z2 z3 ze : Nat, (∀ (w : World) (v : Value), KAt .u8 w v l → Calls Tryz.prog 9 #[v] w fun e w' => e = .returned (.tuple #[.agg #[.int .u64 z0, .int .u64 z1, .int .u64 z2, .int .u64 z3], .int .i64 ze]) ∧ Below w.heap.size w w') ∧
    (∀ (w : World) (v : Value), KAt .u8 w v l → Calls Tryz.prog 10 #[v] w fun e w' => e = .returned (.tuple #[.agg #[.int .u64 z0, .int .u64 z1, .int .u64 z2, .int .u64 z3], .int .i64 ze]) ∧ Below w.heap.size w w') := by
  by_cases h : l.length < 32
  · exact ⟨0, 0, 0, 0, 5, fun w v hv => GetLong_short w hv h, fun w v hv => RGetLong_short w hv h⟩
  · exact ⟨_, _, _, _, 0, fun w v hv => GetLong_any w hv hb (by omega), fun w v hv => RGetLong_any w hv hb (by omega)⟩
theorem bytes_both (l : List Nat) (hb : Bytes l) (hsz : l.length ≤ 140737488355328) : ∃ (r : List Nat) (took err : Nat), r.length ≤ l.length ∧ (∀ (w : World) (v : Value), KAt .u8 w v l → Calls Tryz.prog 11 #[v] w fun e w' => ∃ a c, e = .returned (.tuple #[.slice a r.length c, .int .i64 took, .int .i64 err]) ∧ Own w' w.heap.size (.slice a r.length c) r ∧ Below w.heap.size w w') ∧
    (∀ (w : World) (v : Value), KAt .u8 w v l → Calls Tryz.prog 12 #[v] w fun e w' => ∃ a c, e = .returned (.tuple #[.slice a r.length c, .int .i64 took, .int .i64 err]) ∧ Own w' w.heap.size (.slice a r.length c) r ∧ Below w.heap.size w w') := by
  by_cases h : l.length < 4 ∨ l.length < 4 + num (l.take 4)
  · refine ⟨[], 0, 5, Nat.zero_le _, fun w v hv => (GetBytes_short w hv hb h).mono ?_, fun w v hv => (RGetBytes_short w hv hb h).mono ?_⟩
    · rintro e w' ⟨rfl, rfl⟩
      exact ⟨none, 0, rfl, ⟨rfl, .inl ⟨rfl, rfl⟩⟩, Below.refl _ _⟩
    · rintro e w' ⟨rfl, rfl⟩
      exact ⟨none, 0, rfl, ⟨rfl, .inl ⟨rfl, rfl⟩⟩, Below.refl _ _⟩
  · have hl : ((l.drop 4).take (num (l.take 4))).length ≤ l.length := by simp; omega
    refine ⟨(l.drop 4).take (num (l.take 4)), 4 + num (l.take 4), 0, hl, fun w v hv => (GetBytes_ok w hv hb _ rfl (by omega) hsz).mono ?_, fun w v hv => (RGetBytes_ok w hv hb _ rfl (by omega) hsz).mono ?_⟩
    · rintro e w' ⟨v', rfl, ho, hbl⟩
      obtain ⟨a, c, rfl⟩ := OwnV.sl ho
      exact ⟨a, c, by simp, ho, hbl⟩
    · rintro e w' ⟨v', rfl, ho, hbl⟩
      obtain ⟨a, c, rfl⟩ := OwnV.sl ho
      exact ⟨a, c, by simp, ho, hbl⟩
theorem same_self {l : List Nat} {u v : Value} (w : World) (hu : KAt .u8 w u l) (hv : KAt .u8 w v l) :
    Calls Tryz.prog 13 #[u, v] w fun e w' => e = .returned (.bool true) ∧ ∃ n, w' = w.drewN n := by
  have h := same_any w hu hv
  simpa using h
end Go.Proofs.YtplhfbflgjnjmaaGreatDoor
