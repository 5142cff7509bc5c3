/- How arguments of this program open. No condition. -/
import Derived.Test.YtjbonmmmcnpjiaaGreatDoorProg
import Derived.Test.YtjbonmmmcnpjiaaGreatDoorTy3
import Derived.Test.YtjbonmmmcnpjiaaGreatDoorAx
import Derived.Test.YtjbonmmmcnpjiaaGreatDoorMo
namespace Go.Proofs.YtjbonmmmcnpjiaaGreatDoor
open Go.RowKit

theorem opens_193 : Opens Tryz.prog 193 fDPart wfDPart 3 := by
  intro H enc w base spare held fuel cs x h
  obtain ⟨xs, n, _, _, hl, hlen, hf⟩ := DataW.trod_struct Tryz.underlying193 h
  replace hl : cs.length = 3 := hl.trans (by kernel_rfl)
  replace hlen : xs.length = 3 := hlen
  have g0 : DataW.trod enc Tryz.prog w base spare held n 3 ((cs.drop 0).take (Tryz.prog.cellsOf 3)) = xs[0]? := hf 0 _ rfl
  rw [show Tryz.prog.cellsOf 3 = 1 from by kernel_rfl, List.getElem?_eq_getElem (by omega)] at g0
  obtain ⟨_, y0, s0, r0⟩ := (opens_int Tryz.underlying3) enc w base spare held n _ _ g0
  have g1 : DataW.trod enc Tryz.prog w base spare held n 3 ((cs.drop 1).take (Tryz.prog.cellsOf 3)) = xs[1]? := hf 1 _ rfl
  rw [show Tryz.prog.cellsOf 3 = 1 from by kernel_rfl, List.getElem?_eq_getElem (by omega)] at g1
  obtain ⟨_, y1, s1, r1⟩ := (opens_int Tryz.underlying3) enc w base spare held n _ _ g1
  have g2 : DataW.trod enc Tryz.prog w base spare held n 26 ((cs.drop 2).take (Tryz.prog.cellsOf 26)) = xs[2]? := hf 2 _ rfl
  rw [show Tryz.prog.cellsOf 26 = 1 from by kernel_rfl, List.getElem?_eq_getElem (by omega)] at g2
  obtain ⟨_, y2, s2, r2⟩ := (opens_slice (k := 1) Tryz.underlying26 (by kernel_rfl) (by decide) (opens_int Tryz.underlying3)) enc w base spare held n _ _ g2
  exact ⟨hl, ⟨y0, y1, y2⟩, ⟨s0, s1, s2⟩, rd_fld (o := 0) (c := 1) r0 (rd_fld (o := 1) (c := 1) r1 (rd_fld (o := 2) (c := 1) r2 (rd_fin (by omega))))⟩
theorem opens_191 : Opens Tryz.prog 191 fDEntry wfDEntry 3 := by
  intro H enc w base spare held fuel cs x h
  obtain ⟨xs, n, _, _, hl, hlen, hf⟩ := DataW.trod_struct Tryz.underlying191 h
  replace hl : cs.length = 3 := hl.trans (by kernel_rfl)
  replace hlen : xs.length = 3 := hlen
  have g0 : DataW.trod enc Tryz.prog w base spare held n 3 ((cs.drop 0).take (Tryz.prog.cellsOf 3)) = xs[0]? := hf 0 _ rfl
  rw [show Tryz.prog.cellsOf 3 = 1 from by kernel_rfl, List.getElem?_eq_getElem (by omega)] at g0
  obtain ⟨_, y0, s0, r0⟩ := (opens_int Tryz.underlying3) enc w base spare held n _ _ g0
  have g1 : DataW.trod enc Tryz.prog w base spare held n 3 ((cs.drop 1).take (Tryz.prog.cellsOf 3)) = xs[1]? := hf 1 _ rfl
  rw [show Tryz.prog.cellsOf 3 = 1 from by kernel_rfl, List.getElem?_eq_getElem (by omega)] at g1
  obtain ⟨_, y1, s1, r1⟩ := (opens_int Tryz.underlying3) enc w base spare held n _ _ g1
  have g2 : DataW.trod enc Tryz.prog w base spare held n 83 ((cs.drop 2).take (Tryz.prog.cellsOf 83)) = xs[2]? := hf 2 _ rfl
  rw [show Tryz.prog.cellsOf 83 = 1 from by kernel_rfl, List.getElem?_eq_getElem (by omega)] at g2
  obtain ⟨_, y2, s2, r2⟩ := (opens_slice (k := 3) Tryz.underlying83 (by kernel_rfl) (by decide) (opens_193)) enc w base spare held n _ _ g2
  exact ⟨hl, ⟨y0, y1, y2⟩, ⟨s0, s1, s2⟩, rd_fld (o := 0) (c := 1) r0 (rd_fld (o := 1) (c := 1) r1 (rd_fld (o := 2) (c := 1) r2 (rd_fin (by omega))))⟩
theorem opens_197 : Opens Tryz.prog 197 fDSeen wfDSeen 3 := by
  intro H enc w base spare held fuel cs x h
  obtain ⟨xs, n, _, _, hl, hlen, hf⟩ := DataW.trod_struct Tryz.underlying197 h
  replace hl : cs.length = 3 := hl.trans (by kernel_rfl)
  replace hlen : xs.length = 3 := hlen
  have g0 : DataW.trod enc Tryz.prog w base spare held n 3 ((cs.drop 0).take (Tryz.prog.cellsOf 3)) = xs[0]? := hf 0 _ rfl
  rw [show Tryz.prog.cellsOf 3 = 1 from by kernel_rfl, List.getElem?_eq_getElem (by omega)] at g0
  obtain ⟨_, y0, s0, r0⟩ := (opens_int Tryz.underlying3) enc w base spare held n _ _ g0
  have g1 : DataW.trod enc Tryz.prog w base spare held n 3 ((cs.drop 1).take (Tryz.prog.cellsOf 3)) = xs[1]? := hf 1 _ rfl
  rw [show Tryz.prog.cellsOf 3 = 1 from by kernel_rfl, List.getElem?_eq_getElem (by omega)] at g1
  obtain ⟨_, y1, s1, r1⟩ := (opens_int Tryz.underlying3) enc w base spare held n _ _ g1
  have g2 : DataW.trod enc Tryz.prog w base spare held n 3 ((cs.drop 2).take (Tryz.prog.cellsOf 3)) = xs[2]? := hf 2 _ rfl
  rw [show Tryz.prog.cellsOf 3 = 1 from by kernel_rfl, List.getElem?_eq_getElem (by omega)] at g2
  obtain ⟨_, y2, s2, r2⟩ := (opens_int Tryz.underlying3) enc w base spare held n _ _ g2
  exact ⟨hl, ⟨y0, y1, y2⟩, ⟨s0, s1, s2⟩, rd_fld (o := 0) (c := 1) r0 (rd_fld (o := 1) (c := 1) r1 (rd_fld (o := 2) (c := 1) r2 (rd_fin (by omega))))⟩
theorem opens_121 : Opens Tryz.prog 121 fDDoc wfDDoc 5 := by
  intro H enc w base spare held fuel cs x h
  obtain ⟨xs, n, _, _, hl, hlen, hf⟩ := DataW.trod_struct Tryz.underlying121 h
  replace hl : cs.length = 5 := hl.trans (by kernel_rfl)
  replace hlen : xs.length = 5 := hlen
  have g0 : DataW.trod enc Tryz.prog w base spare held n 9 ((cs.drop 0).take (Tryz.prog.cellsOf 9)) = xs[0]? := hf 0 _ rfl
  rw [show Tryz.prog.cellsOf 9 = 1 from by kernel_rfl, List.getElem?_eq_getElem (by omega)] at g0
  obtain ⟨_, y0, s0, r0⟩ := (opens_str Tryz.underlying9) enc w base spare held n _ _ g0
  have g1 : DataW.trod enc Tryz.prog w base spare held n 3 ((cs.drop 1).take (Tryz.prog.cellsOf 3)) = xs[1]? := hf 1 _ rfl
  rw [show Tryz.prog.cellsOf 3 = 1 from by kernel_rfl, List.getElem?_eq_getElem (by omega)] at g1
  obtain ⟨_, y1, s1, r1⟩ := (opens_int Tryz.underlying3) enc w base spare held n _ _ g1
  have g2 : DataW.trod enc Tryz.prog w base spare held n 26 ((cs.drop 2).take (Tryz.prog.cellsOf 26)) = xs[2]? := hf 2 _ rfl
  rw [show Tryz.prog.cellsOf 26 = 1 from by kernel_rfl, List.getElem?_eq_getElem (by omega)] at g2
  obtain ⟨_, y2, s2, r2⟩ := (opens_slice (k := 1) Tryz.underlying26 (by kernel_rfl) (by decide) (opens_int Tryz.underlying3)) enc w base spare held n _ _ g2
  have g3 : DataW.trod enc Tryz.prog w base spare held n 86 ((cs.drop 3).take (Tryz.prog.cellsOf 86)) = xs[3]? := hf 3 _ rfl
  rw [show Tryz.prog.cellsOf 86 = 1 from by kernel_rfl, List.getElem?_eq_getElem (by omega)] at g3
  obtain ⟨_, y3, s3, r3⟩ := (opens_slice (k := 3) Tryz.underlying86 (by kernel_rfl) (by decide) (opens_191)) enc w base spare held n _ _ g3
  have g4 : DataW.trod enc Tryz.prog w base spare held n 119 ((cs.drop 4).take (Tryz.prog.cellsOf 119)) = xs[4]? := hf 4 _ rfl
  rw [show Tryz.prog.cellsOf 119 = 1 from by kernel_rfl, List.getElem?_eq_getElem (by omega)] at g4
  obtain ⟨_, y4, s4, r4⟩ := (opens_slice (k := 3) Tryz.underlying119 (by kernel_rfl) (by decide) (opens_197)) enc w base spare held n _ _ g4
  exact ⟨hl, ⟨y0, y1, y2, y3, y4⟩, ⟨s0, s1, s2, s3, s4⟩, rd_fld (o := 0) (c := 1) r0 (rd_fld (o := 1) (c := 1) r1 (rd_fld (o := 2) (c := 1) r2 (rd_fld (o := 3) (c := 1) r3 (rd_fld (o := 4) (c := 1) r4 (rd_fin (by omega))))))⟩
theorem opens_124 : Opens Tryz.prog 124 fDRing wfDRing 4 := by
  intro H enc w base spare held fuel cs x h
  obtain ⟨xs, n, _, _, hl, hlen, hf⟩ := DataW.trod_struct Tryz.underlying124 h
  replace hl : cs.length = 4 := hl.trans (by kernel_rfl)
  replace hlen : xs.length = 4 := hlen
  have g0 : DataW.trod enc Tryz.prog w base spare held n 3 ((cs.drop 0).take (Tryz.prog.cellsOf 3)) = xs[0]? := hf 0 _ rfl
  rw [show Tryz.prog.cellsOf 3 = 1 from by kernel_rfl, List.getElem?_eq_getElem (by omega)] at g0
  obtain ⟨_, y0, s0, r0⟩ := (opens_int Tryz.underlying3) enc w base spare held n _ _ g0
  have g1 : DataW.trod enc Tryz.prog w base spare held n 3 ((cs.drop 1).take (Tryz.prog.cellsOf 3)) = xs[1]? := hf 1 _ rfl
  rw [show Tryz.prog.cellsOf 3 = 1 from by kernel_rfl, List.getElem?_eq_getElem (by omega)] at g1
  obtain ⟨_, y1, s1, r1⟩ := (opens_int Tryz.underlying3) enc w base spare held n _ _ g1
  have g2 : DataW.trod enc Tryz.prog w base spare held n 4 ((cs.drop 2).take (Tryz.prog.cellsOf 4)) = xs[2]? := hf 2 _ rfl
  rw [show Tryz.prog.cellsOf 4 = 1 from by kernel_rfl, List.getElem?_eq_getElem (by omega)] at g2
  obtain ⟨_, y2, s2, r2⟩ := (opens_bool Tryz.underlying4) enc w base spare held n _ _ g2
  have g3 : DataW.trod enc Tryz.prog w base spare held n 86 ((cs.drop 3).take (Tryz.prog.cellsOf 86)) = xs[3]? := hf 3 _ rfl
  rw [show Tryz.prog.cellsOf 86 = 1 from by kernel_rfl, List.getElem?_eq_getElem (by omega)] at g3
  obtain ⟨_, y3, s3, r3⟩ := (opens_slice (k := 3) Tryz.underlying86 (by kernel_rfl) (by decide) (opens_191)) enc w base spare held n _ _ g3
  exact ⟨hl, ⟨y0, y1, y2, y3⟩, ⟨s0, s1, s2, s3⟩, rd_fld (o := 0) (c := 1) r0 (rd_fld (o := 1) (c := 1) r1 (rd_fld (o := 2) (c := 1) r2 (rd_fld (o := 3) (c := 1) r3 (rd_fin (by omega)))))⟩
theorem opens_126 : Opens Tryz.prog 126 fDSub wfDSub 6 := by
  intro H enc w base spare held fuel cs x h
  obtain ⟨xs, n, _, _, hl, hlen, hf⟩ := DataW.trod_struct Tryz.underlying126 h
  replace hl : cs.length = 6 := hl.trans (by kernel_rfl)
  replace hlen : xs.length = 3 := hlen
  have g0 : DataW.trod enc Tryz.prog w base spare held n 3 ((cs.drop 0).take (Tryz.prog.cellsOf 3)) = xs[0]? := hf 0 _ rfl
  rw [show Tryz.prog.cellsOf 3 = 1 from by kernel_rfl, List.getElem?_eq_getElem (by omega)] at g0
  obtain ⟨_, y0, s0, r0⟩ := (opens_int Tryz.underlying3) enc w base spare held n _ _ g0
  have g1 : DataW.trod enc Tryz.prog w base spare held n 9 ((cs.drop 1).take (Tryz.prog.cellsOf 9)) = xs[1]? := hf 1 _ rfl
  rw [show Tryz.prog.cellsOf 9 = 1 from by kernel_rfl, List.getElem?_eq_getElem (by omega)] at g1
  obtain ⟨_, y1, s1, r1⟩ := (opens_str Tryz.underlying9) enc w base spare held n _ _ g1
  have g2 : DataW.trod enc Tryz.prog w base spare held n 124 ((cs.drop 2).take (Tryz.prog.cellsOf 124)) = xs[2]? := hf 2 _ rfl
  rw [show Tryz.prog.cellsOf 124 = 4 from by kernel_rfl, List.getElem?_eq_getElem (by omega)] at g2
  obtain ⟨_, y2, s2, r2⟩ := (opens_124) enc w base spare held n _ _ g2
  exact ⟨hl, ⟨y0, y1, y2⟩, ⟨s0, s1, s2⟩, rd_fld (o := 0) (c := 1) r0 (rd_fld (o := 1) (c := 1) r1 (rd_fld (o := 2) (c := 4) r2 (rd_fin (by omega))))⟩
theorem opens_25 : Opens Tryz.prog 25 fDHub wfDHub 4 := by
  intro H enc w base spare held fuel cs x h
  obtain ⟨xs, n, _, _, hl, hlen, hf⟩ := DataW.trod_struct Tryz.underlying25 h
  replace hl : cs.length = 4 := hl.trans (by kernel_rfl)
  replace hlen : xs.length = 4 := hlen
  have g0 : DataW.trod enc Tryz.prog w base spare held n 4 ((cs.drop 0).take (Tryz.prog.cellsOf 4)) = xs[0]? := hf 0 _ rfl
  rw [show Tryz.prog.cellsOf 4 = 1 from by kernel_rfl, List.getElem?_eq_getElem (by omega)] at g0
  obtain ⟨_, y0, s0, r0⟩ := (opens_bool Tryz.underlying4) enc w base spare held n _ _ g0
  have g1 : DataW.trod enc Tryz.prog w base spare held n 22 ((cs.drop 1).take (Tryz.prog.cellsOf 22)) = xs[1]? := hf 1 _ rfl
  rw [show Tryz.prog.cellsOf 22 = 1 from by kernel_rfl, List.getElem?_eq_getElem (by omega)] at g1
  obtain ⟨_, y1, s1, r1⟩ := (opens_slice (k := 5) Tryz.underlying22 (by kernel_rfl) (by decide) (opens_121)) enc w base spare held n _ _ g1
  have g2 : DataW.trod enc Tryz.prog w base spare held n 23 ((cs.drop 2).take (Tryz.prog.cellsOf 23)) = xs[2]? := hf 2 _ rfl
  rw [show Tryz.prog.cellsOf 23 = 1 from by kernel_rfl, List.getElem?_eq_getElem (by omega)] at g2
  obtain ⟨_, y2, s2, r2⟩ := (opens_slice (k := 6) Tryz.underlying23 (by kernel_rfl) (by decide) (opens_126)) enc w base spare held n _ _ g2
  have g3 : DataW.trod enc Tryz.prog w base spare held n 3 ((cs.drop 3).take (Tryz.prog.cellsOf 3)) = xs[3]? := hf 3 _ rfl
  rw [show Tryz.prog.cellsOf 3 = 1 from by kernel_rfl, List.getElem?_eq_getElem (by omega)] at g3
  obtain ⟨_, y3, s3, r3⟩ := (opens_int Tryz.underlying3) enc w base spare held n _ _ g3
  exact ⟨hl, ⟨y0, y1, y2, y3⟩, ⟨s0, s1, s2, s3⟩, rd_fld (o := 0) (c := 1) r0 (rd_fld (o := 1) (c := 1) r1 (rd_fld (o := 2) (c := 1) r2 (rd_fld (o := 3) (c := 1) r3 (rd_fin (by omega)))))⟩
theorem opens_81 : Opens Tryz.prog 81 fDQueue wfDQueue 2 := by
  intro H enc w base spare held fuel cs x h
  obtain ⟨xs, n, _, _, hl, hlen, hf⟩ := DataW.trod_struct Tryz.underlying81 h
  replace hl : cs.length = 2 := hl.trans (by kernel_rfl)
  replace hlen : xs.length = 2 := hlen
  have g0 : DataW.trod enc Tryz.prog w base spare held n 9 ((cs.drop 0).take (Tryz.prog.cellsOf 9)) = xs[0]? := hf 0 _ rfl
  rw [show Tryz.prog.cellsOf 9 = 1 from by kernel_rfl, List.getElem?_eq_getElem (by omega)] at g0
  obtain ⟨_, y0, s0, r0⟩ := (opens_str Tryz.underlying9) enc w base spare held n _ _ g0
  have g1 : DataW.trod enc Tryz.prog w base spare held n 26 ((cs.drop 1).take (Tryz.prog.cellsOf 26)) = xs[1]? := hf 1 _ rfl
  rw [show Tryz.prog.cellsOf 26 = 1 from by kernel_rfl, List.getElem?_eq_getElem (by omega)] at g1
  obtain ⟨_, y1, s1, r1⟩ := (opens_slice (k := 1) Tryz.underlying26 (by kernel_rfl) (by decide) (opens_int Tryz.underlying3)) enc w base spare held n _ _ g1
  exact ⟨hl, ⟨y0, y1⟩, ⟨s0, s1⟩, rd_fld (o := 0) (c := 1) r0 (rd_fld (o := 1) (c := 1) r1 (rd_fin (by omega)))⟩
theorem opens_85 : Opens Tryz.prog 85 fDCall wfDCall 7 := by
  intro H enc w base spare held fuel cs x h
  obtain ⟨xs, n, _, _, hl, hlen, hf⟩ := DataW.trod_struct Tryz.underlying85 h
  replace hl : cs.length = 7 := hl.trans (by kernel_rfl)
  replace hlen : xs.length = 7 := hlen
  have g0 : DataW.trod enc Tryz.prog w base spare held n 3 ((cs.drop 0).take (Tryz.prog.cellsOf 3)) = xs[0]? := hf 0 _ rfl
  rw [show Tryz.prog.cellsOf 3 = 1 from by kernel_rfl, List.getElem?_eq_getElem (by omega)] at g0
  obtain ⟨_, y0, s0, r0⟩ := (opens_int Tryz.underlying3) enc w base spare held n _ _ g0
  have g1 : DataW.trod enc Tryz.prog w base spare held n 9 ((cs.drop 1).take (Tryz.prog.cellsOf 9)) = xs[1]? := hf 1 _ rfl
  rw [show Tryz.prog.cellsOf 9 = 1 from by kernel_rfl, List.getElem?_eq_getElem (by omega)] at g1
  obtain ⟨_, y1, s1, r1⟩ := (opens_str Tryz.underlying9) enc w base spare held n _ _ g1
  have g2 : DataW.trod enc Tryz.prog w base spare held n 3 ((cs.drop 2).take (Tryz.prog.cellsOf 3)) = xs[2]? := hf 2 _ rfl
  rw [show Tryz.prog.cellsOf 3 = 1 from by kernel_rfl, List.getElem?_eq_getElem (by omega)] at g2
  obtain ⟨_, y2, s2, r2⟩ := (opens_int Tryz.underlying3) enc w base spare held n _ _ g2
  have g3 : DataW.trod enc Tryz.prog w base spare held n 3 ((cs.drop 3).take (Tryz.prog.cellsOf 3)) = xs[3]? := hf 3 _ rfl
  rw [show Tryz.prog.cellsOf 3 = 1 from by kernel_rfl, List.getElem?_eq_getElem (by omega)] at g3
  obtain ⟨_, y3, s3, r3⟩ := (opens_int Tryz.underlying3) enc w base spare held n _ _ g3
  have g4 : DataW.trod enc Tryz.prog w base spare held n 3 ((cs.drop 4).take (Tryz.prog.cellsOf 3)) = xs[4]? := hf 4 _ rfl
  rw [show Tryz.prog.cellsOf 3 = 1 from by kernel_rfl, List.getElem?_eq_getElem (by omega)] at g4
  obtain ⟨_, y4, s4, r4⟩ := (opens_int Tryz.underlying3) enc w base spare held n _ _ g4
  have g5 : DataW.trod enc Tryz.prog w base spare held n 83 ((cs.drop 5).take (Tryz.prog.cellsOf 83)) = xs[5]? := hf 5 _ rfl
  rw [show Tryz.prog.cellsOf 83 = 1 from by kernel_rfl, List.getElem?_eq_getElem (by omega)] at g5
  obtain ⟨_, y5, s5, r5⟩ := (opens_slice (k := 3) Tryz.underlying83 (by kernel_rfl) (by decide) (opens_193)) enc w base spare held n _ _ g5
  have g6 : DataW.trod enc Tryz.prog w base spare held n 26 ((cs.drop 6).take (Tryz.prog.cellsOf 26)) = xs[6]? := hf 6 _ rfl
  rw [show Tryz.prog.cellsOf 26 = 1 from by kernel_rfl, List.getElem?_eq_getElem (by omega)] at g6
  obtain ⟨_, y6, s6, r6⟩ := (opens_slice (k := 1) Tryz.underlying26 (by kernel_rfl) (by decide) (opens_int Tryz.underlying3)) enc w base spare held n _ _ g6
  exact ⟨hl, ⟨y0, y1, y2, y3, y4, y5, y6⟩, ⟨s0, s1, s2, s3, s4, s5, s6⟩, rd_fld (o := 0) (c := 1) r0 (rd_fld (o := 1) (c := 1) r1 (rd_fld (o := 2) (c := 1) r2 (rd_fld (o := 3) (c := 1) r3 (rd_fld (o := 4) (c := 1) r4 (rd_fld (o := 5) (c := 1) r5 (rd_fld (o := 6) (c := 1) r6 (rd_fin (by omega))))))))⟩
theorem opens_88 : Opens Tryz.prog 88 fDAnswer wfDAnswer 4 := by
  intro H enc w base spare held fuel cs x h
  obtain ⟨xs, n, _, _, hl, hlen, hf⟩ := DataW.trod_struct Tryz.underlying88 h
  replace hl : cs.length = 4 := hl.trans (by kernel_rfl)
  replace hlen : xs.length = 4 := hlen
  have g0 : DataW.trod enc Tryz.prog w base spare held n 3 ((cs.drop 0).take (Tryz.prog.cellsOf 3)) = xs[0]? := hf 0 _ rfl
  rw [show Tryz.prog.cellsOf 3 = 1 from by kernel_rfl, List.getElem?_eq_getElem (by omega)] at g0
  obtain ⟨_, y0, s0, r0⟩ := (opens_int Tryz.underlying3) enc w base spare held n _ _ g0
  have g1 : DataW.trod enc Tryz.prog w base spare held n 3 ((cs.drop 1).take (Tryz.prog.cellsOf 3)) = xs[1]? := hf 1 _ rfl
  rw [show Tryz.prog.cellsOf 3 = 1 from by kernel_rfl, List.getElem?_eq_getElem (by omega)] at g1
  obtain ⟨_, y1, s1, r1⟩ := (opens_int Tryz.underlying3) enc w base spare held n _ _ g1
  have g2 : DataW.trod enc Tryz.prog w base spare held n 26 ((cs.drop 2).take (Tryz.prog.cellsOf 26)) = xs[2]? := hf 2 _ rfl
  rw [show Tryz.prog.cellsOf 26 = 1 from by kernel_rfl, List.getElem?_eq_getElem (by omega)] at g2
  obtain ⟨_, y2, s2, r2⟩ := (opens_slice (k := 1) Tryz.underlying26 (by kernel_rfl) (by decide) (opens_int Tryz.underlying3)) enc w base spare held n _ _ g2
  have g3 : DataW.trod enc Tryz.prog w base spare held n 86 ((cs.drop 3).take (Tryz.prog.cellsOf 86)) = xs[3]? := hf 3 _ rfl
  rw [show Tryz.prog.cellsOf 86 = 1 from by kernel_rfl, List.getElem?_eq_getElem (by omega)] at g3
  obtain ⟨_, y3, s3, r3⟩ := (opens_slice (k := 3) Tryz.underlying86 (by kernel_rfl) (by decide) (opens_191)) enc w base spare held n _ _ g3
  exact ⟨hl, ⟨y0, y1, y2, y3⟩, ⟨s0, s1, s2, s3⟩, rd_fld (o := 0) (c := 1) r0 (rd_fld (o := 1) (c := 1) r1 (rd_fld (o := 2) (c := 1) r2 (rd_fld (o := 3) (c := 1) r3 (rd_fin (by omega)))))⟩
theorem opens_90 : Opens Tryz.prog 90 fDTask wfDTask 15 := by
  intro H enc w base spare held fuel cs x h
  obtain ⟨xs, n, _, _, hl, hlen, hf⟩ := DataW.trod_struct Tryz.underlying90 h
  replace hl : cs.length = 15 := hl.trans (by kernel_rfl)
  replace hlen : xs.length = 6 := hlen
  have g0 : DataW.trod enc Tryz.prog w base spare held n 85 ((cs.drop 0).take (Tryz.prog.cellsOf 85)) = xs[0]? := hf 0 _ rfl
  rw [show Tryz.prog.cellsOf 85 = 7 from by kernel_rfl, List.getElem?_eq_getElem (by omega)] at g0
  obtain ⟨_, y0, s0, r0⟩ := (opens_85) enc w base spare held n _ _ g0
  have g1 : DataW.trod enc Tryz.prog w base spare held n 3 ((cs.drop 7).take (Tryz.prog.cellsOf 3)) = xs[1]? := hf 1 _ rfl
  rw [show Tryz.prog.cellsOf 3 = 1 from by kernel_rfl, List.getElem?_eq_getElem (by omega)] at g1
  obtain ⟨_, y1, s1, r1⟩ := (opens_int Tryz.underlying3) enc w base spare held n _ _ g1
  have g2 : DataW.trod enc Tryz.prog w base spare held n 3 ((cs.drop 8).take (Tryz.prog.cellsOf 3)) = xs[2]? := hf 2 _ rfl
  rw [show Tryz.prog.cellsOf 3 = 1 from by kernel_rfl, List.getElem?_eq_getElem (by omega)] at g2
  obtain ⟨_, y2, s2, r2⟩ := (opens_int Tryz.underlying3) enc w base spare held n _ _ g2
  have g3 : DataW.trod enc Tryz.prog w base spare held n 3 ((cs.drop 9).take (Tryz.prog.cellsOf 3)) = xs[3]? := hf 3 _ rfl
  rw [show Tryz.prog.cellsOf 3 = 1 from by kernel_rfl, List.getElem?_eq_getElem (by omega)] at g3
  obtain ⟨_, y3, s3, r3⟩ := (opens_int Tryz.underlying3) enc w base spare held n _ _ g3
  have g4 : DataW.trod enc Tryz.prog w base spare held n 3 ((cs.drop 10).take (Tryz.prog.cellsOf 3)) = xs[4]? := hf 4 _ rfl
  rw [show Tryz.prog.cellsOf 3 = 1 from by kernel_rfl, List.getElem?_eq_getElem (by omega)] at g4
  obtain ⟨_, y4, s4, r4⟩ := (opens_int Tryz.underlying3) enc w base spare held n _ _ g4
  have g5 : DataW.trod enc Tryz.prog w base spare held n 88 ((cs.drop 11).take (Tryz.prog.cellsOf 88)) = xs[5]? := hf 5 _ rfl
  rw [show Tryz.prog.cellsOf 88 = 4 from by kernel_rfl, List.getElem?_eq_getElem (by omega)] at g5
  obtain ⟨_, y5, s5, r5⟩ := (opens_88) enc w base spare held n _ _ g5
  exact ⟨hl, ⟨y0, y1, y2, y3, y4, y5⟩, ⟨s0, s1, s2, s3, s4, s5⟩, rd_fld (o := 0) (c := 7) r0 (rd_fld (o := 7) (c := 1) r1 (rd_fld (o := 8) (c := 1) r2 (rd_fld (o := 9) (c := 1) r3 (rd_fld (o := 10) (c := 1) r4 (rd_fld (o := 11) (c := 4) r5 (rd_fin (by omega)))))))⟩
theorem opens_30 : Opens Tryz.prog 30 fDWorld wfDWorld 8 := by
  intro H enc w base spare held fuel cs x h
  obtain ⟨xs, n, _, _, hl, hlen, hf⟩ := DataW.trod_struct Tryz.underlying30 h
  replace hl : cs.length = 8 := hl.trans (by kernel_rfl)
  replace hlen : xs.length = 5 := hlen
  have g0 : DataW.trod enc Tryz.prog w base spare held n 25 ((cs.drop 0).take (Tryz.prog.cellsOf 25)) = xs[0]? := hf 0 _ rfl
  rw [show Tryz.prog.cellsOf 25 = 4 from by kernel_rfl, List.getElem?_eq_getElem (by omega)] at g0
  obtain ⟨_, y0, s0, r0⟩ := (opens_25) enc w base spare held n _ _ g0
  have g1 : DataW.trod enc Tryz.prog w base spare held n 26 ((cs.drop 4).take (Tryz.prog.cellsOf 26)) = xs[1]? := hf 1 _ rfl
  rw [show Tryz.prog.cellsOf 26 = 1 from by kernel_rfl, List.getElem?_eq_getElem (by omega)] at g1
  obtain ⟨_, y1, s1, r1⟩ := (opens_slice (k := 1) Tryz.underlying26 (by kernel_rfl) (by decide) (opens_int Tryz.underlying3)) enc w base spare held n _ _ g1
  have g2 : DataW.trod enc Tryz.prog w base spare held n 27 ((cs.drop 5).take (Tryz.prog.cellsOf 27)) = xs[2]? := hf 2 _ rfl
  rw [show Tryz.prog.cellsOf 27 = 1 from by kernel_rfl, List.getElem?_eq_getElem (by omega)] at g2
  obtain ⟨_, y2, s2, r2⟩ := (opens_slice (k := 2) Tryz.underlying27 (by kernel_rfl) (by decide) (opens_81)) enc w base spare held n _ _ g2
  have g3 : DataW.trod enc Tryz.prog w base spare held n 28 ((cs.drop 6).take (Tryz.prog.cellsOf 28)) = xs[3]? := hf 3 _ rfl
  rw [show Tryz.prog.cellsOf 28 = 1 from by kernel_rfl, List.getElem?_eq_getElem (by omega)] at g3
  obtain ⟨_, y3, s3, r3⟩ := (opens_slice (k := 15) Tryz.underlying28 (by kernel_rfl) (by decide) (opens_90)) enc w base spare held n _ _ g3
  have g4 : DataW.trod enc Tryz.prog w base spare held n 3 ((cs.drop 7).take (Tryz.prog.cellsOf 3)) = xs[4]? := hf 4 _ rfl
  rw [show Tryz.prog.cellsOf 3 = 1 from by kernel_rfl, List.getElem?_eq_getElem (by omega)] at g4
  obtain ⟨_, y4, s4, r4⟩ := (opens_int Tryz.underlying3) enc w base spare held n _ _ g4
  exact ⟨hl, ⟨y0, y1, y2, y3, y4⟩, ⟨s0, s1, s2, s3, s4⟩, rd_fld (o := 0) (c := 4) r0 (rd_fld (o := 4) (c := 1) r1 (rd_fld (o := 5) (c := 1) r2 (rd_fld (o := 6) (c := 1) r3 (rd_fld (o := 7) (c := 1) r4 (rd_fin (by omega))))))⟩
end Go.Proofs.YtjbonmmmcnpjiaaGreatDoor
