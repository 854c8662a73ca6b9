/- What a statement's list of variables gives the walks: the table's four cells. -/
import Derived.Test.YtjbhijganjagaaaDoorLaws
import Derived.Test.YtjbhijganjagaaaDoorCommon
namespace Go.Proofs.YtjbhijganjagaaaDoor
open Go.ChangeShapes Go.WideShapes Go.ChangeAt Go.RowKit
theorem gTab : Tryd.prog.globalNamed "balefire/views.patience" = some 0 := by kernel_rfl
theorem gTabType : (Tryd.prog.globals[0]?).map (·.type) = some 35 := by kernel_rfl
theorem cells35 : Tryd.prog.cellsOf 35 = 4 := by kernel_rfl
theorem cells3 : Tryd.prog.cellsOf 3 = 1 := by kernel_rfl
theorem tab_of {W : World} (h : laidMetH Tryd.prog [("balefire/views.patience", Rows.laid_balefire_views_patience)] W) : Tab W := by
  have t : Lib.TabIs Tryd.prog W "balefire/views.patience" .i64 [8, 16, 32, 64] := Lib.tabIs_of_head (rest := []) gTab gTabType Tryd.underlying35 Tryd.underlying3 cells3 cells35 h
  exact ⟨t.cell gTab 0 (by decide), t.cell gTab 1 (by decide), t.cell gTab 2 (by decide), t.cell gTab 3 (by decide)⟩
theorem tab_pos {W : World} (h : laidMetH Tryd.prog [("balefire/views.patience", Rows.laid_balefire_views_patience)] W) : 0 < W.heap.size := World.block_lt_of_cell? (a := ⟨0, 0, none⟩) W (tab_of h).1
end Go.Proofs.YtjbhijganjagaaaDoor
