/- How arguments of this program open. No condition. -/
import Derived.Test.YtdfjkipdmeomdaaDoorProg
import Derived.Test.YtdfjkipdmeomdaaDoorTy3
import Derived.Test.YtdfjkipdmeomdaaDoorAx
import Derived.Test.YtdfjkipdmeomdaaDoorMo
namespace Go.Proofs.YtdfjkipdmeomdaaDoor
open Go.RowKit

theorem opens_23 : Opens Tryd.prog 23 fDMark wfDMark 3 := by
  intro H enc w base spare held fuel cs x h
  obtain ⟨xs, n, _, _, hl, hlen, hf⟩ := DataW.trod_struct Tryd.underlying23 h
  replace hl : cs.length = 3 := hl.trans (by kernel_rfl)
  replace hlen : xs.length = 3 := hlen
  have g0 : DataW.trod enc Tryd.prog w base spare held n 3 ((cs.drop 0).take (Tryd.prog.cellsOf 3)) = xs[0]? := hf 0 _ rfl
  rw [show Tryd.prog.cellsOf 3 = 1 from by kernel_rfl, List.getElem?_eq_getElem (by omega)] at g0
  obtain ⟨_, y0, s0, r0⟩ := (opens_int Tryd.underlying3) enc w base spare held n _ _ g0
  have g1 : DataW.trod enc Tryd.prog w base spare held n 3 ((cs.drop 1).take (Tryd.prog.cellsOf 3)) = xs[1]? := hf 1 _ rfl
  rw [show Tryd.prog.cellsOf 3 = 1 from by kernel_rfl, List.getElem?_eq_getElem (by omega)] at g1
  obtain ⟨_, y1, s1, r1⟩ := (opens_int Tryd.underlying3) enc w base spare held n _ _ g1
  have g2 : DataW.trod enc Tryd.prog w base spare held n 3 ((cs.drop 2).take (Tryd.prog.cellsOf 3)) = xs[2]? := hf 2 _ rfl
  rw [show Tryd.prog.cellsOf 3 = 1 from by kernel_rfl, List.getElem?_eq_getElem (by omega)] at g2
  obtain ⟨_, y2, s2, r2⟩ := (opens_int Tryd.underlying3) enc w base spare held n _ _ g2
  exact ⟨hl, ⟨y0, y1, y2⟩, ⟨s0, s1, s2⟩, rd_fld (o := 0) (c := 1) r0 (rd_fld (o := 1) (c := 1) r1 (rd_fld (o := 2) (c := 1) r2 (rd_fin (by omega))))⟩
end Go.Proofs.YtdfjkipdmeomdaaDoor
