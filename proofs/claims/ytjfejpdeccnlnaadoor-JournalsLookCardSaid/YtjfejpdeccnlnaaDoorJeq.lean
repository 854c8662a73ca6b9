/- bytes.Equal, of slices that read as bytes. -/
import Derived.Test.YtjfejpdeccnlnaaDoorJrow
import Derived.Test.YtjfejpdeccnlnaaDoorShelf
namespace Go.Proofs.YtjfejpdeccnlnaaDoor
open Go.ChangeShapes Go.WideShapes Go.ChangeAt Go.RowKit

theorem bytesOf_cast (l : List Nat) : Lib.bytesOf (l.map fun x : Nat => (x : Int)) = l.map UInt8.ofNat := by
  unfold Lib.bytesOf
  rw [List.map_map]
  rfl
theorem u8_inj : ∀ (a b : List Nat), Bytes a → Bytes b → a.map UInt8.ofNat = b.map UInt8.ofNat → a = b
  | [], [], _, _, _ => rfl
  | [], _ :: _, _, _, h => by simp at h
  | _ :: _, [], _, _, h => by simp at h
  | x :: a, y :: b, ha, hb, h => by
    simp only [List.map_cons, List.cons.injEq] at h
    have hx := ha x (List.mem_cons_self ..)
    have hy := hb y (List.mem_cons_self ..)
    have h1 := congrArg UInt8.toNat h.1
    rw [UInt8.toNat_ofNat', UInt8.toNat_ofNat'] at h1
    rw [u8_inj a b (fun z hz => ha z (List.mem_cons_of_mem _ hz)) (fun z hz => hb z (List.mem_cons_of_mem _ hz)) h.2, show x = y by omega]
theorem KAt.bytesIn {w : World} {ao : Option Addr} {n c : Nat} {l : List Nat} (h : KAt .u8 w (.slice ao n c) l) (hn : l.length = n) : Lib.BytesIn w ao n (l.map fun x : Nat => (x : Int)) := by
  obtain ⟨a, cap, e, h1, h2, h3, h4⟩ := h
  cases e
  rcases Nat.eq_zero_or_pos l.length with h0 | h0
  · rw [h0]
    exact Lib.BytesIn.nil _ _ _
  · obtain ⟨b, o, rfl, hc⟩ := h4 h0
    exact Lib.BytesIn.of_cells fun i hi => by
      rw [Addr.add_lit, hc i l[i] (List.getElem?_eq_getElem hi)]
      simp [hi]
theorem Equal_any {w : World} {u v : Value} {a b : List Nat} (hu : KAt .u8 w u a) (hv : KAt .u8 w v b) (ha : Bytes a) (hb : Bytes b) {t : Bool} (ht : decide (a = b) = t) :
    Calls Tryd.prog 52 #[u, v] w fun e w' => e = .returned (.bool t) ∧ w' = w := by
  have hu' := hu
  have hv' := hv
  obtain ⟨ao, ca, rfl, _⟩ := hu'
  obtain ⟨bo, cb, rfl, _⟩ := hv'
  refine (Tryd.bytes_Equal_all ao bo a.length ca b.length cb _ _ w (by simp) (by simp) (hu.bytesIn rfl) (hv.bytesIn rfl)).mono ?_
  rintro _ w' ⟨rfl, rfl⟩
  refine ⟨?_, rfl⟩
  rw [bytesOf_cast, bytesOf_cast, ← ht]
  by_cases h : a = b
  · subst h
    simp
  · rw [decide_eq_false h]
    have : ¬ (a.map UInt8.ofNat = b.map UInt8.ofNat) := fun e => h (u8_inj a b ha hb e)
    simp [this]
end Go.Proofs.YtjfejpdeccnlnaaDoor
