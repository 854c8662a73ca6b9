/- An Act that came in, opened. -/
import Derived.Test.YtpjjcicgkngglaaDoorFilesVoid
namespace Go.Proofs.YtpjjcicgkngglaaDoor
open Go.ChangeShapes Go.WideShapes Go.ChangeAt Go.RowKit

theorem cell_wide {P : Program} {w : World} {r : Reach} {base : Nat} {t : TypeId} {v : Value} {d : TypeDesc} (hd : P.underlying t = some d) (hr : d.isRow = false) (h : Cell.okWide P w r base t v) : Value.okWide P w r base t v := by
  unfold Value.okWide
  rw [hd]
  cases d <;> first | (cases hr; done) | exact h
theorem open_struct {P : Program} {w : World} {r : Reach} {base : Nat} {t : TypeId} {v : Value} {fs : Array Field} (ht : P.underlying t = some (.struct fs)) (h : Value.okWide P w r base t v) : ∃ cs, v = .agg cs ∧ cs.size = P.cellsOf t ∧ Row.okWide P w r base t cs := by
  unfold Value.okWide at h
  rw [ht] at h
  exact h
set_option maxRecDepth 100000 in
theorem open_act {w : World} {r : Reach} {base : Nat} {v : Value} (h : Value.okWide Tryd.prog w r base 24 v) :
    ∃ (kd : Int) (s z : ByteArray) (ua : Option Addr) (ul uc : Nat) (at_ n : Int) (nm : Bool), v = .agg #[.int .u8 kd, .string s, .string z, .slice ua ul uc, .int .i64 at_, .int .i64 n, .bool nm] := by
  obtain ⟨cs, rfl, hs, ts, hts, -, hc⟩ := open_struct (P := Tryd.prog) (t := 24) Tryd.underlying24 h
  have e : Tryd.prog.cellTypes Tryd.prog.depth 24 = some [5, 9, 9, 22, 3, 3, 4] := by kernel_rfl
  rw [e] at hts
  cases hts
  have hn : Tryd.prog.cellsOf 24 = 7 := by kernel_rfl
  rw [hn] at hs
  match cs, hs, hc with
  | ⟨[a, b, c, d, x, y, g]⟩, _, hc =>
    obtain ⟨_, h0, ha⟩ := hc 0 a rfl
    cases h0
    obtain ⟨_, h0, hb⟩ := hc 1 b rfl
    cases h0
    obtain ⟨_, h0, hcc⟩ := hc 2 c rfl
    cases h0
    obtain ⟨_, h0, hd⟩ := hc 3 d rfl
    cases h0
    obtain ⟨_, h0, hx⟩ := hc 4 x rfl
    cases h0
    obtain ⟨_, h0, hy⟩ := hc 5 y rfl
    cases h0
    obtain ⟨_, h0, hg⟩ := hc 6 g rfl
    cases h0
    obtain ⟨kd, rfl⟩ := okWide_int Tryd.underlying5 (cell_wide Tryd.underlying5 rfl ha)
    obtain ⟨s, rfl⟩ := okWide_string Tryd.underlying9 (cell_wide Tryd.underlying9 rfl hb)
    obtain ⟨z, rfl⟩ := okWide_string Tryd.underlying9 (cell_wide Tryd.underlying9 rfl hcc)
    obtain ⟨ua, ul, uc, rfl⟩ := okWide_slice Tryd.underlying22 (cell_wide Tryd.underlying22 rfl hd)
    obtain ⟨at_, rfl⟩ := okWide_int Tryd.underlying3 (cell_wide Tryd.underlying3 rfl hx)
    obtain ⟨n, rfl⟩ := okWide_int Tryd.underlying3 (cell_wide Tryd.underlying3 rfl hy)
    obtain ⟨nm, rfl⟩ := okWide_bool Tryd.underlying4 (cell_wide Tryd.underlying4 rfl hg)
    exact ⟨kd, s, z, ua, ul, uc, at_, n, nm, rfl⟩
end Go.Proofs.YtpjjcicgkngglaaDoor
