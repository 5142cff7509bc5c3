/- Laws of exactness, from what both functions give. No condition. -/
import Derived.Test.YtnpfbhejekpmaaaM4
import Derived.Test.YtnpfbhejekpmaaaLe
namespace Go.Proofs.Ytnpfbhejekpmaaa

theorem math_FnExactPastOther (a0 : DStory) (a1 : List DPart) (w0 : wfDStory a0) (w1 : (wfL wfDPart) a1) : x_laws_FnExactPastOther a0 a1 = some true := by
  unfold x_laws_FnExactPastOther
  rw [sz_Story a0 _ w0 (by omega) (by omega), Option.bind_some]
  by_cases z0 : (szDStory a0 : Int) ≤ 1048576
  case neg => rw [if_neg z0]; rfl
  rw [if_pos z0, cd_f (by omega)]
  rw [sz_PartS a1 _ w1 (by omega) (by omega), Option.bind_some]
  by_cases z1 : ((lenL szDPart) a1 : Int) ≤ 1048576 - (szDStory a0 : Int)
  case neg => rw [if_neg z1]; rfl
  rw [if_pos z1, cd_f (by omega)]
  have s0 := smz_DStory a0 (by omega)
  have s1 := (smz_L smz_DPart) a1 (by omega)
  obtain ⟨r, hs, hi, q0⟩ := ex_FnExactPastOther a0 a1 w0 w1 (by omega) (by omega)
  have y0 := smz_DStory (r.1) (by omega)
  have c0 := cvz_DStory a0
  have c1 := (cnz_S cnz_DPart) a1
  have d0 := cvz_DStory (r.1)
  have e0 : (⟨r.1.n, (mvDStory r.1 (1 : Int)).undo, (mvDStory r.1 (1 : Int)).redo⟩ : DStory) = mvDStory (r.1) (1 : Int) := rfl
  have F := True.intro
  have f0 := hs
  have f1 := hi
  have f2 := eq_Story (r.1) (r.1) y0
  have f3 := to_Story a0 s0
  have f4 := eq_Story a0 a0 s0
  have f5 := to_PartS a1 s1
  have f6 := eq_PartS a1 a1 s1
  have f7 := mark_Story a0 (1 : Int) s0 (by omega) (by omega)
  have f8 := mark_PartS a1 ((1 : Int) + (cvDStory a0 : Int)) s1 (by omega) (by omega)
  have f9 := decide_eq_false (p := (1 : Int) + (cvDStory a0 : Int) + ((sumL cnDPart) a1 : Int) < 0) (by omega)
  have f10 := mark_Story (r.1) (1 : Int) y0 (by omega) (by omega)
  have f11 := held_Story (r.1) (1 : Int) y0 (by omega) (by omega)
  have f12 := decide_eq_false (p := (1 : Int) + (cvDStory (r.1) : Int) < 0) (by omega)
  simp only [f0, f1, f2, f3, f4, f5, f6, f7, f8, f9, f10, f11, f12, e0, Option.bind_some, cd_F, Bool.not_true, decide_true, beq_self_eq_true]

end Go.Proofs.Ytnpfbhejekpmaaa
