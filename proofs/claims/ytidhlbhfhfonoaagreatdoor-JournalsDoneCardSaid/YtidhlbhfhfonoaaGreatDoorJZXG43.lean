/- Layer 17 (files): Remove -/
import Derived.Test.YtidhlbhfhfonoaaGreatDoorJZXG06
namespace Go.Proofs.YtidhlbhfhfonoaaGreatDoor
open Go.ChangeShapes Go.WideShapes Go.ChangeAt Go.RowKit

set_option maxRecDepth 20000 in
set_option maxHeartbeats 1500000 in
theorem Remove_any {w : World} {base D : Nat} {M : Dm} {S : Nat → Prop} (hd : Dk w base D M S) (s : ByteArray) (hs : s.size ≤ 140737488355328) :
    Calls Tryz.prog 19 #[.pointer (some ⟨D, 0, none⟩), .string s] w (Errs w base D S (M.remove s)) := by
  have HD := Lib.hid hd
  obtain ⟨⟨rb, rv, h, hS⟩, _⟩ := hd
  rcases M.ways s with ⟨hok, i, hf⟩ | hno
  · obtain ⟨k, r, h1, h2, h3, h4, h5⟩ := h.ok.found hok hf
    rw [show M.remove s = ({ M with now := M.now.set i free }, 0) from Dm.at_yes hok hf]
    have HF := Lib.hid (finds_yes h s hs hok i hf)
    have c1 := (h.place h1).1
    have c2 := (h.place h1).2
    have hD := h.lowD
    have H := Lib.hid h
    have HS := Lib.hid hS
    have C1 := Lib.hid (fun w1 (hb : Below w.heap.size w w1) => cell_on c1 hb)
    have C2 := Lib.hid (fun w1 (hb : Below w.heap.size w w1) => cell_on c2 hb)
    clear h hS h1 h2 h4 h5 hf hok c1 c2
    go_enter Tryz.func19, Tryz.ntmps19
    go_wp2_with fail
    refine HF.out.mono ?_
    rintro _ w1 ⟨rfl, hb⟩
    have HB := Lib.hid hb
    have c1 := C1.out w1 hb
    have c2 := C2.out w1 hb
    have H1 := H.out.later hb
    have f1 := H1.free (1 + i * 2)
    have f2 := H1.free (1 + i * 2 + 1)
    have HH := Lib.hid H1
    clear hb H1
    go_wp2_with fail
    go_ret
    exact ⟨rfl, dn_of HD.out (HH.out.put h3 (HH.out.ok.remove i) rfl) (((Chg.of_below HB.out S).setCell (.inl (HS.out D (.inl rfl))) _).setCell (.inl (HS.out D (.inl rfl))) _) (fun g hg => .inl (HS.out g hg))⟩
  · rw [show M.remove s = (M, M.why true s) from Dm.at_no hno]
    have HF := Lib.hid (finds_no h true s hs hno)
    obtain ⟨e, he⟩ : ∃ e, M.why true s = e := ⟨_, rfl⟩
    rw [he] at HF hno ⊢
    have hn : ((e : Int) == 0) = false := by simp; omega
    clear h he hS
    go_enter Tryz.func19, Tryz.ntmps19
    go_wp2_with fail
    refine HF.out.mono ?_
    rintro _ w1 ⟨rfl, hb⟩
    have HB := Lib.hid hb
    clear hb
    go_wp2_with fail
    go_ret
    exact ⟨rfl, HD.out.looked HB.out⟩
end Go.Proofs.YtidhlbhfhfonoaaGreatDoor
