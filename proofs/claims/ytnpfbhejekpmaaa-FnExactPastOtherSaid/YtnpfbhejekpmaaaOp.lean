/- How arguments of this program open. No condition. -/
import Derived.Test.YtnpfbhejekpmaaaProg
import Derived.Test.YtnpfbhejekpmaaaTy3
import Derived.Test.YtnpfbhejekpmaaaAx
import Derived.Test.YtnpfbhejekpmaaaMo
namespace Go.Proofs.Ytnpfbhejekpmaaa
open Go.RowKit

theorem opens_75 : Opens Try.prog 75 fDPart wfDPart 3 := by
  intro H enc w base spare held fuel cs x h
  obtain ⟨xs, n, _, _, hl, hlen, hf⟩ := DataW.trod_struct Try.underlying75 h
  replace hl : cs.length = 3 := hl.trans (by kernel_rfl)
  replace hlen : xs.length = 3 := hlen
  have g0 : DataW.trod enc Try.prog w base spare held n 3 ((cs.drop 0).take (Try.prog.cellsOf 3)) = xs[0]? := hf 0 _ rfl
  rw [show Try.prog.cellsOf 3 = 1 from by kernel_rfl, List.getElem?_eq_getElem (by omega)] at g0
  obtain ⟨_, y0, s0, r0⟩ := (opens_int Try.underlying3) enc w base spare held n _ _ g0
  have g1 : DataW.trod enc Try.prog w base spare held n 3 ((cs.drop 1).take (Try.prog.cellsOf 3)) = xs[1]? := hf 1 _ rfl
  rw [show Try.prog.cellsOf 3 = 1 from by kernel_rfl, List.getElem?_eq_getElem (by omega)] at g1
  obtain ⟨_, y1, s1, r1⟩ := (opens_int Try.underlying3) enc w base spare held n _ _ g1
  have g2 : DataW.trod enc Try.prog w base spare held n 24 ((cs.drop 2).take (Try.prog.cellsOf 24)) = xs[2]? := hf 2 _ rfl
  rw [show Try.prog.cellsOf 24 = 1 from by kernel_rfl, List.getElem?_eq_getElem (by omega)] at g2
  obtain ⟨_, y2, s2, r2⟩ := (opens_slice (k := 1) Try.underlying24 (by kernel_rfl) (by decide) (opens_int Try.underlying3)) enc w base spare held n _ _ g2
  exact ⟨hl, ⟨y0, y1, y2⟩, ⟨s0, s1, s2⟩, rd_fld (o := 0) (c := 1) r0 (rd_fld (o := 1) (c := 1) r1 (rd_fld (o := 2) (c := 1) r2 (rd_fin (by omega))))⟩
theorem opens_43 : Opens Try.prog 43 fDStory wfDStory 3 := by
  intro H enc w base spare held fuel cs x h
  obtain ⟨xs, n, _, _, hl, hlen, hf⟩ := DataW.trod_struct Try.underlying43 h
  replace hl : cs.length = 3 := hl.trans (by kernel_rfl)
  replace hlen : xs.length = 3 := hlen
  have g0 : DataW.trod enc Try.prog w base spare held n 3 ((cs.drop 0).take (Try.prog.cellsOf 3)) = xs[0]? := hf 0 _ rfl
  rw [show Try.prog.cellsOf 3 = 1 from by kernel_rfl, List.getElem?_eq_getElem (by omega)] at g0
  obtain ⟨_, y0, s0, r0⟩ := (opens_int Try.underlying3) enc w base spare held n _ _ g0
  have g1 : DataW.trod enc Try.prog w base spare held n 41 ((cs.drop 1).take (Try.prog.cellsOf 41)) = xs[1]? := hf 1 _ rfl
  rw [show Try.prog.cellsOf 41 = 1 from by kernel_rfl, List.getElem?_eq_getElem (by omega)] at g1
  obtain ⟨_, y1, s1, r1⟩ := (opens_slice (k := 1) Try.underlying41 (by kernel_rfl) (by decide) (opens_slice (k := 3) Try.underlying22 (by kernel_rfl) (by decide) (opens_75))) enc w base spare held n _ _ g1
  have g2 : DataW.trod enc Try.prog w base spare held n 41 ((cs.drop 2).take (Try.prog.cellsOf 41)) = xs[2]? := hf 2 _ rfl
  rw [show Try.prog.cellsOf 41 = 1 from by kernel_rfl, List.getElem?_eq_getElem (by omega)] at g2
  obtain ⟨_, y2, s2, r2⟩ := (opens_slice (k := 1) Try.underlying41 (by kernel_rfl) (by decide) (opens_slice (k := 3) Try.underlying22 (by kernel_rfl) (by decide) (opens_75))) enc w base spare held n _ _ g2
  exact ⟨hl, ⟨y0, y1, y2⟩, ⟨s0, s1, s2⟩, rd_fld (o := 0) (c := 1) r0 (rd_fld (o := 1) (c := 1) r1 (rd_fld (o := 2) (c := 1) r2 (rd_fin (by omega))))⟩
theorem opens_100 : Opens Try.prog 100 fDMark wfDMark 3 := by
  intro H enc w base spare held fuel cs x h
  obtain ⟨xs, n, _, _, hl, hlen, hf⟩ := DataW.trod_struct Try.underlying100 h
  replace hl : cs.length = 3 := hl.trans (by kernel_rfl)
  replace hlen : xs.length = 3 := hlen
  have g0 : DataW.trod enc Try.prog w base spare held n 3 ((cs.drop 0).take (Try.prog.cellsOf 3)) = xs[0]? := hf 0 _ rfl
  rw [show Try.prog.cellsOf 3 = 1 from by kernel_rfl, List.getElem?_eq_getElem (by omega)] at g0
  obtain ⟨_, y0, s0, r0⟩ := (opens_int Try.underlying3) enc w base spare held n _ _ g0
  have g1 : DataW.trod enc Try.prog w base spare held n 3 ((cs.drop 1).take (Try.prog.cellsOf 3)) = xs[1]? := hf 1 _ rfl
  rw [show Try.prog.cellsOf 3 = 1 from by kernel_rfl, List.getElem?_eq_getElem (by omega)] at g1
  obtain ⟨_, y1, s1, r1⟩ := (opens_int Try.underlying3) enc w base spare held n _ _ g1
  have g2 : DataW.trod enc Try.prog w base spare held n 3 ((cs.drop 2).take (Try.prog.cellsOf 3)) = xs[2]? := hf 2 _ rfl
  rw [show Try.prog.cellsOf 3 = 1 from by kernel_rfl, List.getElem?_eq_getElem (by omega)] at g2
  obtain ⟨_, y2, s2, r2⟩ := (opens_int Try.underlying3) enc w base spare held n _ _ g2
  exact ⟨hl, ⟨y0, y1, y2⟩, ⟨s0, s1, s2⟩, rd_fld (o := 0) (c := 1) r0 (rd_fld (o := 1) (c := 1) r1 (rd_fld (o := 2) (c := 1) r2 (rd_fin (by omega))))⟩
end Go.Proofs.Ytnpfbhejekpmaaa
