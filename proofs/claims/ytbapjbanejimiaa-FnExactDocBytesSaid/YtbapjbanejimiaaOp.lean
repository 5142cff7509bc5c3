/- How arguments of this program open. No condition. -/
import Derived.Test.YtbapjbanejimiaaProg
import Derived.Test.YtbapjbanejimiaaTy3
import Derived.Test.YtbapjbanejimiaaAx
import Derived.Test.YtbapjbanejimiaaMo
namespace Go.Proofs.Ytbapjbanejimiaa
open Go.RowKit

theorem opens_117 : Opens Try.prog 117 fDPart wfDPart 3 := by
  intro H enc w base spare held fuel cs x h
  obtain ⟨xs, n, _, _, hl, hlen, hf⟩ := DataW.trod_struct Try.underlying117 h
  replace hl : cs.length = 3 := hl.trans (by kernel_rfl)
  replace hlen : xs.length = 3 := hlen
  have g0 : DataW.trod enc Try.prog w base spare held n 3 ((cs.drop 0).take (Try.prog.cellsOf 3)) = xs[0]? := hf 0 _ rfl
  rw [show Try.prog.cellsOf 3 = 1 from by kernel_rfl, List.getElem?_eq_getElem (by omega)] at g0
  obtain ⟨_, y0, s0, r0⟩ := (opens_int Try.underlying3) enc w base spare held n _ _ g0
  have g1 : DataW.trod enc Try.prog w base spare held n 3 ((cs.drop 1).take (Try.prog.cellsOf 3)) = xs[1]? := hf 1 _ rfl
  rw [show Try.prog.cellsOf 3 = 1 from by kernel_rfl, List.getElem?_eq_getElem (by omega)] at g1
  obtain ⟨_, y1, s1, r1⟩ := (opens_int Try.underlying3) enc w base spare held n _ _ g1
  have g2 : DataW.trod enc Try.prog w base spare held n 23 ((cs.drop 2).take (Try.prog.cellsOf 23)) = xs[2]? := hf 2 _ rfl
  rw [show Try.prog.cellsOf 23 = 1 from by kernel_rfl, List.getElem?_eq_getElem (by omega)] at g2
  obtain ⟨_, y2, s2, r2⟩ := (opens_slice (k := 1) Try.underlying23 (by kernel_rfl) (by decide) (opens_int Try.underlying3)) enc w base spare held n _ _ g2
  exact ⟨hl, ⟨y0, y1, y2⟩, ⟨s0, s1, s2⟩, rd_fld (o := 0) (c := 1) r0 (rd_fld (o := 1) (c := 1) r1 (rd_fld (o := 2) (c := 1) r2 (rd_fin (by omega))))⟩
theorem opens_25 : Opens Try.prog 25 fDCall wfDCall 7 := by
  intro H enc w base spare held fuel cs x h
  obtain ⟨xs, n, _, _, hl, hlen, hf⟩ := DataW.trod_struct Try.underlying25 h
  replace hl : cs.length = 7 := hl.trans (by kernel_rfl)
  replace hlen : xs.length = 7 := hlen
  have g0 : DataW.trod enc Try.prog w base spare held n 3 ((cs.drop 0).take (Try.prog.cellsOf 3)) = xs[0]? := hf 0 _ rfl
  rw [show Try.prog.cellsOf 3 = 1 from by kernel_rfl, List.getElem?_eq_getElem (by omega)] at g0
  obtain ⟨_, y0, s0, r0⟩ := (opens_int Try.underlying3) enc w base spare held n _ _ g0
  have g1 : DataW.trod enc Try.prog w base spare held n 9 ((cs.drop 1).take (Try.prog.cellsOf 9)) = xs[1]? := hf 1 _ rfl
  rw [show Try.prog.cellsOf 9 = 1 from by kernel_rfl, List.getElem?_eq_getElem (by omega)] at g1
  obtain ⟨_, y1, s1, r1⟩ := (opens_str Try.underlying9) enc w base spare held n _ _ g1
  have g2 : DataW.trod enc Try.prog w base spare held n 3 ((cs.drop 2).take (Try.prog.cellsOf 3)) = xs[2]? := hf 2 _ rfl
  rw [show Try.prog.cellsOf 3 = 1 from by kernel_rfl, List.getElem?_eq_getElem (by omega)] at g2
  obtain ⟨_, y2, s2, r2⟩ := (opens_int Try.underlying3) enc w base spare held n _ _ g2
  have g3 : DataW.trod enc Try.prog w base spare held n 3 ((cs.drop 3).take (Try.prog.cellsOf 3)) = xs[3]? := hf 3 _ rfl
  rw [show Try.prog.cellsOf 3 = 1 from by kernel_rfl, List.getElem?_eq_getElem (by omega)] at g3
  obtain ⟨_, y3, s3, r3⟩ := (opens_int Try.underlying3) enc w base spare held n _ _ g3
  have g4 : DataW.trod enc Try.prog w base spare held n 3 ((cs.drop 4).take (Try.prog.cellsOf 3)) = xs[4]? := hf 4 _ rfl
  rw [show Try.prog.cellsOf 3 = 1 from by kernel_rfl, List.getElem?_eq_getElem (by omega)] at g4
  obtain ⟨_, y4, s4, r4⟩ := (opens_int Try.underlying3) enc w base spare held n _ _ g4
  have g5 : DataW.trod enc Try.prog w base spare held n 22 ((cs.drop 5).take (Try.prog.cellsOf 22)) = xs[5]? := hf 5 _ rfl
  rw [show Try.prog.cellsOf 22 = 1 from by kernel_rfl, List.getElem?_eq_getElem (by omega)] at g5
  obtain ⟨_, y5, s5, r5⟩ := (opens_slice (k := 3) Try.underlying22 (by kernel_rfl) (by decide) (opens_117)) enc w base spare held n _ _ g5
  have g6 : DataW.trod enc Try.prog w base spare held n 23 ((cs.drop 6).take (Try.prog.cellsOf 23)) = xs[6]? := hf 6 _ rfl
  rw [show Try.prog.cellsOf 23 = 1 from by kernel_rfl, List.getElem?_eq_getElem (by omega)] at g6
  obtain ⟨_, y6, s6, r6⟩ := (opens_slice (k := 1) Try.underlying23 (by kernel_rfl) (by decide) (opens_int Try.underlying3)) enc w base spare held n _ _ g6
  exact ⟨hl, ⟨y0, y1, y2, y3, y4, y5, y6⟩, ⟨s0, s1, s2, s3, s4, s5, s6⟩, rd_fld (o := 0) (c := 1) r0 (rd_fld (o := 1) (c := 1) r1 (rd_fld (o := 2) (c := 1) r2 (rd_fld (o := 3) (c := 1) r3 (rd_fld (o := 4) (c := 1) r4 (rd_fld (o := 5) (c := 1) r5 (rd_fld (o := 6) (c := 1) r6 (rd_fin (by omega))))))))⟩
theorem opens_94 : Opens Try.prog 94 fDEntry wfDEntry 3 := by
  intro H enc w base spare held fuel cs x h
  obtain ⟨xs, n, _, _, hl, hlen, hf⟩ := DataW.trod_struct Try.underlying94 h
  replace hl : cs.length = 3 := hl.trans (by kernel_rfl)
  replace hlen : xs.length = 3 := hlen
  have g0 : DataW.trod enc Try.prog w base spare held n 3 ((cs.drop 0).take (Try.prog.cellsOf 3)) = xs[0]? := hf 0 _ rfl
  rw [show Try.prog.cellsOf 3 = 1 from by kernel_rfl, List.getElem?_eq_getElem (by omega)] at g0
  obtain ⟨_, y0, s0, r0⟩ := (opens_int Try.underlying3) enc w base spare held n _ _ g0
  have g1 : DataW.trod enc Try.prog w base spare held n 3 ((cs.drop 1).take (Try.prog.cellsOf 3)) = xs[1]? := hf 1 _ rfl
  rw [show Try.prog.cellsOf 3 = 1 from by kernel_rfl, List.getElem?_eq_getElem (by omega)] at g1
  obtain ⟨_, y1, s1, r1⟩ := (opens_int Try.underlying3) enc w base spare held n _ _ g1
  have g2 : DataW.trod enc Try.prog w base spare held n 22 ((cs.drop 2).take (Try.prog.cellsOf 22)) = xs[2]? := hf 2 _ rfl
  rw [show Try.prog.cellsOf 22 = 1 from by kernel_rfl, List.getElem?_eq_getElem (by omega)] at g2
  obtain ⟨_, y2, s2, r2⟩ := (opens_slice (k := 3) Try.underlying22 (by kernel_rfl) (by decide) (opens_117)) enc w base spare held n _ _ g2
  exact ⟨hl, ⟨y0, y1, y2⟩, ⟨s0, s1, s2⟩, rd_fld (o := 0) (c := 1) r0 (rd_fld (o := 1) (c := 1) r1 (rd_fld (o := 2) (c := 1) r2 (rd_fin (by omega))))⟩
theorem opens_28 : Opens Try.prog 28 fDAnswer wfDAnswer 4 := by
  intro H enc w base spare held fuel cs x h
  obtain ⟨xs, n, _, _, hl, hlen, hf⟩ := DataW.trod_struct Try.underlying28 h
  replace hl : cs.length = 4 := hl.trans (by kernel_rfl)
  replace hlen : xs.length = 4 := hlen
  have g0 : DataW.trod enc Try.prog w base spare held n 3 ((cs.drop 0).take (Try.prog.cellsOf 3)) = xs[0]? := hf 0 _ rfl
  rw [show Try.prog.cellsOf 3 = 1 from by kernel_rfl, List.getElem?_eq_getElem (by omega)] at g0
  obtain ⟨_, y0, s0, r0⟩ := (opens_int Try.underlying3) enc w base spare held n _ _ g0
  have g1 : DataW.trod enc Try.prog w base spare held n 3 ((cs.drop 1).take (Try.prog.cellsOf 3)) = xs[1]? := hf 1 _ rfl
  rw [show Try.prog.cellsOf 3 = 1 from by kernel_rfl, List.getElem?_eq_getElem (by omega)] at g1
  obtain ⟨_, y1, s1, r1⟩ := (opens_int Try.underlying3) enc w base spare held n _ _ g1
  have g2 : DataW.trod enc Try.prog w base spare held n 23 ((cs.drop 2).take (Try.prog.cellsOf 23)) = xs[2]? := hf 2 _ rfl
  rw [show Try.prog.cellsOf 23 = 1 from by kernel_rfl, List.getElem?_eq_getElem (by omega)] at g2
  obtain ⟨_, y2, s2, r2⟩ := (opens_slice (k := 1) Try.underlying23 (by kernel_rfl) (by decide) (opens_int Try.underlying3)) enc w base spare held n _ _ g2
  have g3 : DataW.trod enc Try.prog w base spare held n 26 ((cs.drop 3).take (Try.prog.cellsOf 26)) = xs[3]? := hf 3 _ rfl
  rw [show Try.prog.cellsOf 26 = 1 from by kernel_rfl, List.getElem?_eq_getElem (by omega)] at g3
  obtain ⟨_, y3, s3, r3⟩ := (opens_slice (k := 3) Try.underlying26 (by kernel_rfl) (by decide) (opens_94)) enc w base spare held n _ _ g3
  exact ⟨hl, ⟨y0, y1, y2, y3⟩, ⟨s0, s1, s2, s3⟩, rd_fld (o := 0) (c := 1) r0 (rd_fld (o := 1) (c := 1) r1 (rd_fld (o := 2) (c := 1) r2 (rd_fld (o := 3) (c := 1) r3 (rd_fin (by omega)))))⟩
theorem opens_30 : Opens Try.prog 30 fDTask wfDTask 15 := by
  intro H enc w base spare held fuel cs x h
  obtain ⟨xs, n, _, _, hl, hlen, hf⟩ := DataW.trod_struct Try.underlying30 h
  replace hl : cs.length = 15 := hl.trans (by kernel_rfl)
  replace hlen : xs.length = 6 := hlen
  have g0 : DataW.trod enc Try.prog w base spare held n 25 ((cs.drop 0).take (Try.prog.cellsOf 25)) = xs[0]? := hf 0 _ rfl
  rw [show Try.prog.cellsOf 25 = 7 from by kernel_rfl, List.getElem?_eq_getElem (by omega)] at g0
  obtain ⟨_, y0, s0, r0⟩ := (opens_25) enc w base spare held n _ _ g0
  have g1 : DataW.trod enc Try.prog w base spare held n 3 ((cs.drop 7).take (Try.prog.cellsOf 3)) = xs[1]? := hf 1 _ rfl
  rw [show Try.prog.cellsOf 3 = 1 from by kernel_rfl, List.getElem?_eq_getElem (by omega)] at g1
  obtain ⟨_, y1, s1, r1⟩ := (opens_int Try.underlying3) enc w base spare held n _ _ g1
  have g2 : DataW.trod enc Try.prog w base spare held n 3 ((cs.drop 8).take (Try.prog.cellsOf 3)) = xs[2]? := hf 2 _ rfl
  rw [show Try.prog.cellsOf 3 = 1 from by kernel_rfl, List.getElem?_eq_getElem (by omega)] at g2
  obtain ⟨_, y2, s2, r2⟩ := (opens_int Try.underlying3) enc w base spare held n _ _ g2
  have g3 : DataW.trod enc Try.prog w base spare held n 3 ((cs.drop 9).take (Try.prog.cellsOf 3)) = xs[3]? := hf 3 _ rfl
  rw [show Try.prog.cellsOf 3 = 1 from by kernel_rfl, List.getElem?_eq_getElem (by omega)] at g3
  obtain ⟨_, y3, s3, r3⟩ := (opens_int Try.underlying3) enc w base spare held n _ _ g3
  have g4 : DataW.trod enc Try.prog w base spare held n 3 ((cs.drop 10).take (Try.prog.cellsOf 3)) = xs[4]? := hf 4 _ rfl
  rw [show Try.prog.cellsOf 3 = 1 from by kernel_rfl, List.getElem?_eq_getElem (by omega)] at g4
  obtain ⟨_, y4, s4, r4⟩ := (opens_int Try.underlying3) enc w base spare held n _ _ g4
  have g5 : DataW.trod enc Try.prog w base spare held n 28 ((cs.drop 11).take (Try.prog.cellsOf 28)) = xs[5]? := hf 5 _ rfl
  rw [show Try.prog.cellsOf 28 = 4 from by kernel_rfl, List.getElem?_eq_getElem (by omega)] at g5
  obtain ⟨_, y5, s5, r5⟩ := (opens_28) enc w base spare held n _ _ g5
  exact ⟨hl, ⟨y0, y1, y2, y3, y4, y5⟩, ⟨s0, s1, s2, s3, s4, s5⟩, rd_fld (o := 0) (c := 7) r0 (rd_fld (o := 7) (c := 1) r1 (rd_fld (o := 8) (c := 1) r2 (rd_fld (o := 9) (c := 1) r3 (rd_fld (o := 10) (c := 1) r4 (rd_fld (o := 11) (c := 4) r5 (rd_fin (by omega)))))))⟩
theorem opens_108 : Opens Try.prog 108 fDSeen wfDSeen 3 := by
  intro H enc w base spare held fuel cs x h
  obtain ⟨xs, n, _, _, hl, hlen, hf⟩ := DataW.trod_struct Try.underlying108 h
  replace hl : cs.length = 3 := hl.trans (by kernel_rfl)
  replace hlen : xs.length = 3 := hlen
  have g0 : DataW.trod enc Try.prog w base spare held n 3 ((cs.drop 0).take (Try.prog.cellsOf 3)) = xs[0]? := hf 0 _ rfl
  rw [show Try.prog.cellsOf 3 = 1 from by kernel_rfl, List.getElem?_eq_getElem (by omega)] at g0
  obtain ⟨_, y0, s0, r0⟩ := (opens_int Try.underlying3) enc w base spare held n _ _ g0
  have g1 : DataW.trod enc Try.prog w base spare held n 3 ((cs.drop 1).take (Try.prog.cellsOf 3)) = xs[1]? := hf 1 _ rfl
  rw [show Try.prog.cellsOf 3 = 1 from by kernel_rfl, List.getElem?_eq_getElem (by omega)] at g1
  obtain ⟨_, y1, s1, r1⟩ := (opens_int Try.underlying3) enc w base spare held n _ _ g1
  have g2 : DataW.trod enc Try.prog w base spare held n 3 ((cs.drop 2).take (Try.prog.cellsOf 3)) = xs[2]? := hf 2 _ rfl
  rw [show Try.prog.cellsOf 3 = 1 from by kernel_rfl, List.getElem?_eq_getElem (by omega)] at g2
  obtain ⟨_, y2, s2, r2⟩ := (opens_int Try.underlying3) enc w base spare held n _ _ g2
  exact ⟨hl, ⟨y0, y1, y2⟩, ⟨s0, s1, s2⟩, rd_fld (o := 0) (c := 1) r0 (rd_fld (o := 1) (c := 1) r1 (rd_fld (o := 2) (c := 1) r2 (rd_fin (by omega))))⟩
theorem opens_46 : Opens Try.prog 46 fDDoc wfDDoc 5 := by
  intro H enc w base spare held fuel cs x h
  obtain ⟨xs, n, _, _, hl, hlen, hf⟩ := DataW.trod_struct Try.underlying46 h
  replace hl : cs.length = 5 := hl.trans (by kernel_rfl)
  replace hlen : xs.length = 5 := hlen
  have g0 : DataW.trod enc Try.prog w base spare held n 9 ((cs.drop 0).take (Try.prog.cellsOf 9)) = xs[0]? := hf 0 _ rfl
  rw [show Try.prog.cellsOf 9 = 1 from by kernel_rfl, List.getElem?_eq_getElem (by omega)] at g0
  obtain ⟨_, y0, s0, r0⟩ := (opens_str Try.underlying9) enc w base spare held n _ _ g0
  have g1 : DataW.trod enc Try.prog w base spare held n 3 ((cs.drop 1).take (Try.prog.cellsOf 3)) = xs[1]? := hf 1 _ rfl
  rw [show Try.prog.cellsOf 3 = 1 from by kernel_rfl, List.getElem?_eq_getElem (by omega)] at g1
  obtain ⟨_, y1, s1, r1⟩ := (opens_int Try.underlying3) enc w base spare held n _ _ g1
  have g2 : DataW.trod enc Try.prog w base spare held n 23 ((cs.drop 2).take (Try.prog.cellsOf 23)) = xs[2]? := hf 2 _ rfl
  rw [show Try.prog.cellsOf 23 = 1 from by kernel_rfl, List.getElem?_eq_getElem (by omega)] at g2
  obtain ⟨_, y2, s2, r2⟩ := (opens_slice (k := 1) Try.underlying23 (by kernel_rfl) (by decide) (opens_int Try.underlying3)) enc w base spare held n _ _ g2
  have g3 : DataW.trod enc Try.prog w base spare held n 26 ((cs.drop 3).take (Try.prog.cellsOf 26)) = xs[3]? := hf 3 _ rfl
  rw [show Try.prog.cellsOf 26 = 1 from by kernel_rfl, List.getElem?_eq_getElem (by omega)] at g3
  obtain ⟨_, y3, s3, r3⟩ := (opens_slice (k := 3) Try.underlying26 (by kernel_rfl) (by decide) (opens_94)) enc w base spare held n _ _ g3
  have g4 : DataW.trod enc Try.prog w base spare held n 44 ((cs.drop 4).take (Try.prog.cellsOf 44)) = xs[4]? := hf 4 _ rfl
  rw [show Try.prog.cellsOf 44 = 1 from by kernel_rfl, List.getElem?_eq_getElem (by omega)] at g4
  obtain ⟨_, y4, s4, r4⟩ := (opens_slice (k := 3) Try.underlying44 (by kernel_rfl) (by decide) (opens_108)) enc w base spare held n _ _ g4
  exact ⟨hl, ⟨y0, y1, y2, y3, y4⟩, ⟨s0, s1, s2, s3, s4⟩, rd_fld (o := 0) (c := 1) r0 (rd_fld (o := 1) (c := 1) r1 (rd_fld (o := 2) (c := 1) r2 (rd_fld (o := 3) (c := 1) r3 (rd_fld (o := 4) (c := 1) r4 (rd_fin (by omega))))))⟩
end Go.Proofs.Ytbapjbanejimiaa
