/- Layer 18 (journals): JournalsRoom, what its loop keeps. -/
import Derived.Test.YtjfejpdeccnlnaaDoorJcut
import Derived.Test.YtjfejpdeccnlnaaDoorOpenS
namespace Go.Proofs.YtjfejpdeccnlnaaDoor
open Go.ChangeShapes Go.WideShapes Go.ChangeAt Go.RowKit

theorem OneK.grow {K S0 : Nat → Prop} {w w' : World} {base C : Nat} {M : Dm} (h : OneK K w base C M) (hc : Chg w w' S0) (hS : ∀ g, S0 g → K g) : OneK (fun g => K g ∨ (w.heap.size ≤ g ∧ g < w'.heap.size)) w' base C M := by
  obtain ⟨S, h1, h4⟩ := h
  refine ⟨S, h1.other hc (fun g hg hs => (h4 g (hS g hg)).2 hs), fun g hg => ?_⟩
  rcases hg with hg | hg
  · exact ⟨Nat.lt_of_lt_of_le (h4 g hg).1 hc.size, (h4 g hg).2⟩
  · exact ⟨hg.2, fun hs => by have := (h1.2 g hs).2; omega⟩
/-- What stands between two rounds: the disk holds the records R, the slice av the records A. -/
structure RoomI (w wr : World) (D Jb n : Nat) (av : Value) (R A : List (List Nat)) : Prop where
  whole : Whole (fun g => (g < D ∨ g = Jb) ∨ av.ownBlock = some g) wr D D Jb n ⟨#[106]⟩ 0 free64 R
  all : ∃ xs, OwnV wr D 37 1 av A.length xs ∧ ∀ (i : Nat) (l : List Nat), A[i]? = some l → ∃ u, xs[i]? = some u ∧ KAt .u8 w u l
  below : Below D w wr
  jb : D ≤ Jb ∧ av.ownBlock ≠ some Jb
section
variable {w wr w' : World} {D Jb n : Nat} {av : Value} {R A : List (List Nat)}
theorem RoomI.parts (h : RoomI w wr D Jb n av R A) (hD : D = w.heap.size) : PartsAt wr av A := by
  obtain ⟨xs, h1, h2⟩ := h.all
  refine parts_own h1 fun i l hl => ?_
  obtain ⟨u, h3, h4⟩ := h2 i l hl
  exact ⟨u, h3, h4.later (by rw [← hD]; exact h.below)⟩
theorem RoomI.sl (h : RoomI w wr D Jb n av R A) : ∃ a c, av = .slice a A.length c := by
  obtain ⟨xs, h1, _⟩ := h.all
  exact h1.sl
theorem RoomI.later (h : RoomI w wr D Jb n av R A) (hb : Below wr.heap.size wr w') : RoomI w w' D Jb n av R A := by
  obtain ⟨xs, h1, h2⟩ := h.all
  have hD := h.whole.disk.size
  exact ⟨h.whole.later hb, ⟨xs, OwnV.later h1 hb, h2⟩, h.below.trans (hb.mono hD), h.jb⟩
theorem RoomI.opened {J2 : Nat} (h : RoomI w wr D Jb n av R A) (hw : Whole (fun g => ((g < D ∨ g = Jb) ∨ av.ownBlock = some g) ∨ g = J2) w' D D J2 n ⟨#[106]⟩ 0 free64 R) (hs : Stay (fun g => (g < D ∨ g = Jb) ∨ av.ownBlock = some g) wr w') (hJ : wr.heap.size ≤ J2) : RoomI w w' D J2 n av R A := by
  obtain ⟨xs, h1, h2⟩ := h.all
  have hD := h.whole.disk.size
  refine ⟨⟨hw.disk.lessC fun g hg => ?_, hw.jour, .inl (.inr rfl), hw.recs, hw.name, hw.le⟩, ⟨xs, h1.block fun g hg => hs.block g (.inr hg), h2⟩, h.below.trans (hs.below fun g hg => .inl (.inl hg)), by omega, fun e => by have := (h1.lt _ e).2; omega⟩
  rcases hg with (hg | hg) | hg
  · exact .inl (.inl (.inl hg))
  · exact .inr hg
  · exact .inl (.inr hg)
theorem RoomI.acted {R2 : List (List Nat)} (h : RoomI w wr D Jb n av R A) (hw : Whole (fun g => (g < D ∨ g = Jb) ∨ av.ownBlock = some g) w' D D Jb n ⟨#[106]⟩ 0 free64 R2) (hs : Stay (fun g => ((g < D ∨ g = Jb) ∨ av.ownBlock = some g) ∧ g ≠ Jb) wr w') : RoomI w w' D Jb n av R2 A := by
  obtain ⟨xs, h1, h2⟩ := h.all
  have hj := h.jb
  exact ⟨hw, ⟨xs, h1.block fun g hg => hs.block g ⟨.inr hg, fun e => hj.2 (e ▸ hg)⟩, h2⟩, h.below.trans (hs.below fun g hg => ⟨.inl (.inl hg), by omega⟩), h.jb⟩
theorem RoomI.app {w1 w2 : World} {o : Obj} {av2 u : Value} {s : List Nat} {xs : List Value} {m : Nat} (h : RoomI w wr D Jb n av R A) (hm : m = A.length) (e1 : w1 = wr.alloc o) (hu : KAt .u8 w u s) (ho : OwnV w2 D 37 1 av2 (m + 1) (xs ++ [u])) (hx : xs.length = m ∧ ∀ (i : Nat) (l : List Nat), A[i]? = some l → ∃ u, xs[i]? = some u ∧ KAt .u8 w u l)
    (hg : w1.grownBy w2 av.ownBlock) (hl : Lies w1 w2 av av2 m 1) : RoomI w w2 D Jb n av2 R (A ++ [s]) := by
  have hb1 : Below wr.heap.size wr w1 := by rw [e1]; exact (Below.refl _ wr).alloc (Nat.le_refl _) _
  have hs1 : w1.heap.size = wr.heap.size + 1 := by rw [e1]; simp
  obtain ⟨_, h1, _⟩ := h.all
  have hD := h.whole.disk.size
  have hJlt : Jb < wr.heap.size := lt_of_heap h.whole.jour
  have hc : Chg wr w2 (fun g => av.ownBlock = some g) := ⟨hg.os.trans hb1.os, hg.tape.trans hb1.tape, hg.output.trans hb1.output, Nat.le_trans hb1.size hg.size, fun g hlt hn => (hg.block g (by omega) (fun e => hn e.symm)).trans (hb1.block g hlt)⟩
  have hj2 : av2.ownBlock ≠ some Jb := lies_apart hl h.jb.2 (by omega)
  have hown : ∀ g, av2.ownBlock = some g → av.ownBlock = some g ∨ (wr.heap.size ≤ g ∧ g < w2.heap.size) := fun g hg2 => by
    have hlt := (ho.lt g hg2).2
    rcases hl with ⟨b, o9, cap, rfl, rfl⟩ | ⟨h9, _⟩ | ⟨h9, _⟩
    · exact .inl hg2
    · rw [h9] at hg2
      cases hg2
      exact .inr ⟨by omega, hlt⟩
    · omega
  refine ⟨⟨(h.whole.disk.grow hc fun g hg => .inr hg).lessC fun g hg => ?_, ?_, .inl (.inr rfl), h.whole.recs, h.whole.name, h.whole.le⟩, ⟨xs ++ [u], by rw [List.length_append, ← hm]; exact ho, fun i l hil => ?_⟩, ?_, h.jb.1, hj2⟩
  · rcases hg with hg | hg
    · exact .inl (.inl hg)
    · rcases hown g hg with h9 | h9
      · exact .inl (.inr h9)
      · exact .inr h9
  · exact (hc.block Jb hJlt h.jb.2).trans h.whole.jour
  · rcases Nat.lt_or_ge i A.length with hi | hi
    · rw [List.getElem?_append_left hi] at hil
      obtain ⟨u', h3, h4⟩ := hx.2 i l hil
      exact ⟨u', by rw [List.getElem?_append_left (by omega)]; exact h3, h4⟩
    · rw [List.getElem?_append_right hi] at hil
      have h0 : i - A.length = 0 := by
        have := (List.getElem?_eq_some_iff.1 hil).1
        simpa using this
      rw [h0] at hil
      cases hil
      exact ⟨u, by rw [List.getElem?_append_right (by omega), show i - xs.length = 0 by omega]; rfl, hu⟩
  · exact h.below.trans (hc.below (fun g hg => (h1.lt g hg).1) hD)
end
end Go.Proofs.YtjfejpdeccnlnaaDoor
