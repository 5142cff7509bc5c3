/- Laws of exactness, from what both functions give. No condition. -/
import Derived.Test.YtnpfbhejekpmaaaMw
import Derived.Test.YtnpfbhejekpmaaaLb
namespace Go.Proofs.Ytnpfbhejekpmaaa

theorem math_FnExactRowsDrop (a0 : List Int) (a1 : Int) (w0 : (wfL wfI) a0) (w1 : wfI a1) : x_laws_FnExactRowsDrop a0 a1 = some true := by
  unfold x_laws_FnExactRowsDrop
  by_cases g0 : (1048576 : Int) < (a0.length : Int)
  · rw [cd_t g0]
  rw [cd_f g0]
  have s0 : (smL smI) a0 := ⟨by omega, fun x _ => trivial⟩
  obtain ⟨r, hs, hi, q0⟩ := ex_FnExactRowsDrop a0 a1 w0 w1 (by omega)
  have y0 := (smz_L smz_DPart) (r.1) (by omega)
  have c0 := (cnz_S cnz_I) a0
  rw [lenL_z (c := szI) (fun _ => rfl)] at c0
  have d0 := (cnz_S cnz_DPart) (r.1)
  have F := True.intro
  have f0 := hs
  have f1 := hi
  have f2 := eq_PartS (r.1) (r.1) y0
  have f3 := to_IntS a0 s0
  have f4 := eq_IntS a0 a0 s0
  have f5 := mark_IntS a0 (1 : Int) s0 (by omega) (by omega)
  have f6 := decide_eq_false (p := (1 : Int) + ((sumL cnI) a0 : Int) < 0) (by omega)
  have f7 := mark_PartS (r.1) (1 : Int) y0 (by omega) (by omega)
  have f8 := held_PartS (r.1) (1 : Int) y0 (by omega) (by omega)
  have f9 := decide_eq_false (p := (1 : Int) + ((sumL cnDPart) (r.1) : Int) < 0) (by omega)
  simp only [f0, f1, f2, f3, f4, f5, f6, f7, f8, f9, Option.bind_some, cd_F, Bool.not_true, decide_true, beq_self_eq_true]

theorem math_FnExactRowMoved (a0 : List Int) (a1 : List DPart) (a2 : Int) (w0 : (wfL wfI) a0) (w1 : (wfL wfDPart) a1) (w2 : wfI a2) : x_laws_FnExactRowMoved a0 a1 a2 = some true := by
  unfold x_laws_FnExactRowMoved
  by_cases g0 : (1048576 : Int) < (a0.length : Int)
  · rw [cd_t g0]
  rw [cd_f g0]
  rw [sz_PartS a1 _ w1 (by omega) (by omega), Option.bind_some]
  by_cases z1 : ((lenL szDPart) a1 : Int) ≤ 1048576
  case neg => rw [if_neg z1]; rfl
  rw [if_pos z1, cd_f (by omega)]
  have s0 : (smL smI) a0 := ⟨by omega, fun x _ => trivial⟩
  have s1 := (smz_L smz_DPart) a1 (by omega)
  obtain ⟨r, hs, hi⟩ := ex_FnExactRowMoved a0 a1 a2 w0 w1 w2 (by omega) (by omega)
  have F := True.intro
  have f0 := hs
  have f1 := hi
  have f2 := to_IntS a0 s0
  have f3 := eq_IntS a0 a0 s0
  have f4 := to_PartS a1 s1
  have f5 := eq_PartS a1 a1 s1
  simp only [f0, f1, f2, f3, f4, f5, Option.bind_some, cd_F, Bool.not_true, decide_true, beq_self_eq_true]

theorem math_FnExactMarksMove (a0 : List DMark) (a1 : List DPart) (w0 : (wfL wfDMark) a0) (w1 : (wfL wfDPart) a1) : x_laws_FnExactMarksMove a0 a1 = some true := by
  unfold x_laws_FnExactMarksMove
  rw [sz_MarkS a0 _ w0 (by omega) (by omega), Option.bind_some]
  by_cases z0 : ((lenL szDMark) a0 : Int) ≤ 1048576
  case neg => rw [if_neg z0]; rfl
  rw [if_pos z0, cd_f (by omega)]
  rw [sz_PartS a1 _ w1 (by omega) (by omega), Option.bind_some]
  by_cases z1 : ((lenL szDPart) a1 : Int) ≤ 1048576 - ((lenL szDMark) a0 : Int)
  case neg => rw [if_neg z1]; rfl
  rw [if_pos z1, cd_f (by omega)]
  have s0 := (smz_L smz_DMark) a0 (by omega)
  have s1 := (smz_L smz_DPart) a1 (by omega)
  obtain ⟨r, hs, hi, q0⟩ := ex_FnExactMarksMove a0 a1 w0 w1 (by omega) (by omega)
  have y0 := (smz_L smz_DMark) (r.1) (by omega)
  have c0 := (cnz_S cnz_DMark) a0
  have c1 := (cnz_S cnz_DPart) a1
  have d0 := (cnz_S cnz_DMark) (r.1)
  have F := True.intro
  have f0 := hs
  have f1 := hi
  have f2 := eq_MarkS (r.1) (r.1) y0
  have f3 := to_MarkS a0 s0
  have f4 := eq_MarkS a0 a0 s0
  have f5 := to_PartS a1 s1
  have f6 := eq_PartS a1 a1 s1
  have f7 := mark_MarkS a0 (1 : Int) s0 (by omega) (by omega)
  have f8 := mark_PartS a1 ((1 : Int) + ((sumL cnDMark) a0 : Int)) s1 (by omega) (by omega)
  have f9 := decide_eq_false (p := (1 : Int) + ((sumL cnDMark) a0 : Int) + ((sumL cnDPart) a1 : Int) < 0) (by omega)
  have f10 := mark_MarkS (r.1) (1 : Int) y0 (by omega) (by omega)
  have f11 := held_MarkS (r.1) (1 : Int) y0 (by omega) (by omega)
  have f12 := decide_eq_false (p := (1 : Int) + ((sumL cnDMark) (r.1) : Int) < 0) (by omega)
  simp only [f0, f1, f2, f3, f4, f5, f6, f7, f8, f9, f10, f11, f12, Option.bind_some, cd_F, Bool.not_true, decide_true, beq_self_eq_true]

end Go.Proofs.Ytnpfbhejekpmaaa
