/- Laws of exactness, from what both functions give. No condition. -/
import Derived.Test.YtnpfbhejekpmaaaMw
import Derived.Test.YtnpfbhejekpmaaaLa
namespace Go.Proofs.Ytnpfbhejekpmaaa

theorem math_FnExactTouches (a0 : List DPart) (w0 : (wfL wfDPart) a0) : x_laws_FnExactTouches a0 = some true := by
  unfold x_laws_FnExactTouches
  rw [sz_PartS a0 _ w0 (by omega) (by omega), Option.bind_some]
  by_cases z0 : ((lenL szDPart) a0 : Int) ≤ 1048576
  case neg => rw [if_neg z0]; rfl
  rw [if_pos z0, cd_f (by omega)]
  have s0 := (smz_L smz_DPart) a0 (by omega)
  obtain ⟨r, hs, hi, q0⟩ := ex_FnExactTouches a0 w0 (by omega)
  have y0 := (smz_L smz_I) (r) (by omega)
  have c0 := (cnz_S cnz_DPart) a0
  have d0 := (cnz_S cnz_I) (r)
  have F := True.intro
  have f0 := hs
  have f1 := hi
  have f2 := eq_IntS (r) (r) y0
  have f3 := to_PartS a0 s0
  have f4 := eq_PartS a0 a0 s0
  have f5 := mark_PartS a0 (1 : Int) s0 (by omega) (by omega)
  have f6 := decide_eq_false (p := (1 : Int) + ((sumL cnDPart) a0 : Int) < 0) (by omega)
  have f7 := mark_IntS (r) (1 : Int) y0 (by omega) (by omega)
  have f8 := held_IntS (r) (1 : Int) y0 (by omega) (by omega)
  have f9 := decide_eq_false (p := (1 : Int) + ((sumL cnI) (r) : Int) < 0) (by omega)
  simp only [f0, f1, f2, f3, f4, f5, f6, f7, f8, f9, Option.bind_some, cd_F, Bool.not_true, decide_true]

theorem math_FnExactClashes (a0 : List DPart) (a1 : List DPart) (w0 : (wfL wfDPart) a0) (w1 : (wfL wfDPart) a1) : x_laws_FnExactClashes a0 a1 = some true := by
  unfold x_laws_FnExactClashes
  rw [sz_PartS a0 _ w0 (by omega) (by omega), Option.bind_some]
  by_cases z0 : ((lenL szDPart) a0 : Int) ≤ 1048576
  case neg => rw [if_neg z0]; rfl
  rw [if_pos z0, cd_f (by omega)]
  rw [sz_PartS a1 _ w1 (by omega) (by omega), Option.bind_some]
  by_cases z1 : ((lenL szDPart) a1 : Int) ≤ 1048576 - ((lenL szDPart) a0 : Int)
  case neg => rw [if_neg z1]; rfl
  rw [if_pos z1, cd_f (by omega)]
  have s0 := (smz_L smz_DPart) a0 (by omega)
  have s1 := (smz_L smz_DPart) a1 (by omega)
  obtain ⟨r, hs, hi⟩ := ex_FnExactClashes a0 a1 w0 w1 (by omega) (by omega)
  have F := True.intro
  have f0 := hs
  have f1 := hi
  have f2 := to_PartS a0 s0
  have f3 := eq_PartS a0 a0 s0
  have f4 := to_PartS a1 s1
  have f5 := eq_PartS a1 a1 s1
  simp only [f0, f1, f2, f3, f4, f5, Option.bind_some, cd_F, Bool.not_true, decide_true]

theorem math_FnExactApart (a0 : List DPart) (a1 : List DPart) (w0 : (wfL wfDPart) a0) (w1 : (wfL wfDPart) a1) : x_laws_FnExactApart a0 a1 = some true := by
  unfold x_laws_FnExactApart
  rw [sz_PartS a0 _ w0 (by omega) (by omega), Option.bind_some]
  by_cases z0 : ((lenL szDPart) a0 : Int) ≤ 1048576
  case neg => rw [if_neg z0]; rfl
  rw [if_pos z0, cd_f (by omega)]
  rw [sz_PartS a1 _ w1 (by omega) (by omega), Option.bind_some]
  by_cases z1 : ((lenL szDPart) a1 : Int) ≤ 1048576 - ((lenL szDPart) a0 : Int)
  case neg => rw [if_neg z1]; rfl
  rw [if_pos z1, cd_f (by omega)]
  have s0 := (smz_L smz_DPart) a0 (by omega)
  have s1 := (smz_L smz_DPart) a1 (by omega)
  obtain ⟨r, hs, hi⟩ := ex_FnExactApart a0 a1 w0 w1 (by omega) (by omega)
  have F := True.intro
  have f0 := hs
  have f1 := hi
  have f2 := to_PartS a0 s0
  have f3 := eq_PartS a0 a0 s0
  have f4 := to_PartS a1 s1
  have f5 := eq_PartS a1 a1 s1
  simp only [f0, f1, f2, f3, f4, f5, Option.bind_some, cd_F, Bool.not_true, decide_true, beq_self_eq_true]

end Go.Proofs.Ytnpfbhejekpmaaa
