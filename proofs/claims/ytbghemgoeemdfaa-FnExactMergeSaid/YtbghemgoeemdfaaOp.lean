/- How arguments of this program open. No condition. -/
import Derived.Test.YtbghemgoeemdfaaProg
import Derived.Test.YtbghemgoeemdfaaTy3
import Derived.Test.YtbghemgoeemdfaaAx
import Derived.Test.YtbghemgoeemdfaaMo
namespace Go.Proofs.Ytbghemgoeemdfaa
open Go.RowKit

theorem opens_160 : Opens Try.prog 160 fDPart wfDPart 3 := by
  intro H enc w base spare held fuel cs x h
  obtain ⟨xs, n, _, _, hl, hlen, hf⟩ := DataW.trod_struct Try.underlying160 h
  replace hl : cs.length = 3 := hl.trans (by kernel_rfl)
  replace hlen : xs.length = 3 := hlen
  have g0 : DataW.trod enc Try.prog w base spare held n 3 ((cs.drop 0).take (Try.prog.cellsOf 3)) = xs[0]? := hf 0 _ rfl
  rw [show Try.prog.cellsOf 3 = 1 from by kernel_rfl, List.getElem?_eq_getElem (by omega)] at g0
  obtain ⟨_, y0, s0, r0⟩ := (opens_int Try.underlying3) enc w base spare held n _ _ g0
  have g1 : DataW.trod enc Try.prog w base spare held n 3 ((cs.drop 1).take (Try.prog.cellsOf 3)) = xs[1]? := hf 1 _ rfl
  rw [show Try.prog.cellsOf 3 = 1 from by kernel_rfl, List.getElem?_eq_getElem (by omega)] at g1
  obtain ⟨_, y1, s1, r1⟩ := (opens_int Try.underlying3) enc w base spare held n _ _ g1
  have g2 : DataW.trod enc Try.prog w base spare held n 22 ((cs.drop 2).take (Try.prog.cellsOf 22)) = xs[2]? := hf 2 _ rfl
  rw [show Try.prog.cellsOf 22 = 1 from by kernel_rfl, List.getElem?_eq_getElem (by omega)] at g2
  obtain ⟨_, y2, s2, r2⟩ := (opens_slice (k := 1) Try.underlying22 (by kernel_rfl) (by decide) (opens_int Try.underlying3)) enc w base spare held n _ _ g2
  exact ⟨hl, ⟨y0, y1, y2⟩, ⟨s0, s1, s2⟩, rd_fld (o := 0) (c := 1) r0 (rd_fld (o := 1) (c := 1) r1 (rd_fld (o := 2) (c := 1) r2 (rd_fin (by omega))))⟩
theorem opens_105 : Opens Try.prog 105 fDEntry wfDEntry 3 := by
  intro H enc w base spare held fuel cs x h
  obtain ⟨xs, n, _, _, hl, hlen, hf⟩ := DataW.trod_struct Try.underlying105 h
  replace hl : cs.length = 3 := hl.trans (by kernel_rfl)
  replace hlen : xs.length = 3 := hlen
  have g0 : DataW.trod enc Try.prog w base spare held n 3 ((cs.drop 0).take (Try.prog.cellsOf 3)) = xs[0]? := hf 0 _ rfl
  rw [show Try.prog.cellsOf 3 = 1 from by kernel_rfl, List.getElem?_eq_getElem (by omega)] at g0
  obtain ⟨_, y0, s0, r0⟩ := (opens_int Try.underlying3) enc w base spare held n _ _ g0
  have g1 : DataW.trod enc Try.prog w base spare held n 3 ((cs.drop 1).take (Try.prog.cellsOf 3)) = xs[1]? := hf 1 _ rfl
  rw [show Try.prog.cellsOf 3 = 1 from by kernel_rfl, List.getElem?_eq_getElem (by omega)] at g1
  obtain ⟨_, y1, s1, r1⟩ := (opens_int Try.underlying3) enc w base spare held n _ _ g1
  have g2 : DataW.trod enc Try.prog w base spare held n 94 ((cs.drop 2).take (Try.prog.cellsOf 94)) = xs[2]? := hf 2 _ rfl
  rw [show Try.prog.cellsOf 94 = 1 from by kernel_rfl, List.getElem?_eq_getElem (by omega)] at g2
  obtain ⟨_, y2, s2, r2⟩ := (opens_slice (k := 3) Try.underlying94 (by kernel_rfl) (by decide) (opens_160)) enc w base spare held n _ _ g2
  exact ⟨hl, ⟨y0, y1, y2⟩, ⟨s0, s1, s2⟩, rd_fld (o := 0) (c := 1) r0 (rd_fld (o := 1) (c := 1) r1 (rd_fld (o := 2) (c := 1) r2 (rd_fin (by omega))))⟩
theorem opens_170 : Opens Try.prog 170 fDSeen wfDSeen 3 := by
  intro H enc w base spare held fuel cs x h
  obtain ⟨xs, n, _, _, hl, hlen, hf⟩ := DataW.trod_struct Try.underlying170 h
  replace hl : cs.length = 3 := hl.trans (by kernel_rfl)
  replace hlen : xs.length = 3 := hlen
  have g0 : DataW.trod enc Try.prog w base spare held n 3 ((cs.drop 0).take (Try.prog.cellsOf 3)) = xs[0]? := hf 0 _ rfl
  rw [show Try.prog.cellsOf 3 = 1 from by kernel_rfl, List.getElem?_eq_getElem (by omega)] at g0
  obtain ⟨_, y0, s0, r0⟩ := (opens_int Try.underlying3) enc w base spare held n _ _ g0
  have g1 : DataW.trod enc Try.prog w base spare held n 3 ((cs.drop 1).take (Try.prog.cellsOf 3)) = xs[1]? := hf 1 _ rfl
  rw [show Try.prog.cellsOf 3 = 1 from by kernel_rfl, List.getElem?_eq_getElem (by omega)] at g1
  obtain ⟨_, y1, s1, r1⟩ := (opens_int Try.underlying3) enc w base spare held n _ _ g1
  have g2 : DataW.trod enc Try.prog w base spare held n 3 ((cs.drop 2).take (Try.prog.cellsOf 3)) = xs[2]? := hf 2 _ rfl
  rw [show Try.prog.cellsOf 3 = 1 from by kernel_rfl, List.getElem?_eq_getElem (by omega)] at g2
  obtain ⟨_, y2, s2, r2⟩ := (opens_int Try.underlying3) enc w base spare held n _ _ g2
  exact ⟨hl, ⟨y0, y1, y2⟩, ⟨s0, s1, s2⟩, rd_fld (o := 0) (c := 1) r0 (rd_fld (o := 1) (c := 1) r1 (rd_fld (o := 2) (c := 1) r2 (rd_fin (by omega))))⟩
theorem opens_57 : Opens Try.prog 57 fDDoc wfDDoc 5 := by
  intro H enc w base spare held fuel cs x h
  obtain ⟨xs, n, _, _, hl, hlen, hf⟩ := DataW.trod_struct Try.underlying57 h
  replace hl : cs.length = 5 := hl.trans (by kernel_rfl)
  replace hlen : xs.length = 5 := hlen
  have g0 : DataW.trod enc Try.prog w base spare held n 9 ((cs.drop 0).take (Try.prog.cellsOf 9)) = xs[0]? := hf 0 _ rfl
  rw [show Try.prog.cellsOf 9 = 1 from by kernel_rfl, List.getElem?_eq_getElem (by omega)] at g0
  obtain ⟨_, y0, s0, r0⟩ := (opens_str Try.underlying9) enc w base spare held n _ _ g0
  have g1 : DataW.trod enc Try.prog w base spare held n 3 ((cs.drop 1).take (Try.prog.cellsOf 3)) = xs[1]? := hf 1 _ rfl
  rw [show Try.prog.cellsOf 3 = 1 from by kernel_rfl, List.getElem?_eq_getElem (by omega)] at g1
  obtain ⟨_, y1, s1, r1⟩ := (opens_int Try.underlying3) enc w base spare held n _ _ g1
  have g2 : DataW.trod enc Try.prog w base spare held n 22 ((cs.drop 2).take (Try.prog.cellsOf 22)) = xs[2]? := hf 2 _ rfl
  rw [show Try.prog.cellsOf 22 = 1 from by kernel_rfl, List.getElem?_eq_getElem (by omega)] at g2
  obtain ⟨_, y2, s2, r2⟩ := (opens_slice (k := 1) Try.underlying22 (by kernel_rfl) (by decide) (opens_int Try.underlying3)) enc w base spare held n _ _ g2
  have g3 : DataW.trod enc Try.prog w base spare held n 41 ((cs.drop 3).take (Try.prog.cellsOf 41)) = xs[3]? := hf 3 _ rfl
  rw [show Try.prog.cellsOf 41 = 1 from by kernel_rfl, List.getElem?_eq_getElem (by omega)] at g3
  obtain ⟨_, y3, s3, r3⟩ := (opens_slice (k := 3) Try.underlying41 (by kernel_rfl) (by decide) (opens_105)) enc w base spare held n _ _ g3
  have g4 : DataW.trod enc Try.prog w base spare held n 55 ((cs.drop 4).take (Try.prog.cellsOf 55)) = xs[4]? := hf 4 _ rfl
  rw [show Try.prog.cellsOf 55 = 1 from by kernel_rfl, List.getElem?_eq_getElem (by omega)] at g4
  obtain ⟨_, y4, s4, r4⟩ := (opens_slice (k := 3) Try.underlying55 (by kernel_rfl) (by decide) (opens_170)) enc w base spare held n _ _ g4
  exact ⟨hl, ⟨y0, y1, y2, y3, y4⟩, ⟨s0, s1, s2, s3, s4⟩, rd_fld (o := 0) (c := 1) r0 (rd_fld (o := 1) (c := 1) r1 (rd_fld (o := 2) (c := 1) r2 (rd_fld (o := 3) (c := 1) r3 (rd_fld (o := 4) (c := 1) r4 (rd_fin (by omega))))))⟩
end Go.Proofs.Ytbghemgoeemdfaa
