/- Laws of exactness, from what both functions give. No condition. -/
import Derived.Test.YtnpfbhejekpmaaaMy
import Derived.Test.YtnpfbhejekpmaaaLc
namespace Go.Proofs.Ytnpfbhejekpmaaa

theorem math_FnExactPastOk (a0 : DStory) (w0 : wfDStory a0) : x_laws_FnExactPastOk a0 = some true := by
  unfold x_laws_FnExactPastOk
  rw [sz_Story a0 _ w0 (by omega) (by omega), Option.bind_some]
  by_cases z0 : (szDStory a0 : Int) ≤ 1048576
  case neg => rw [if_neg z0]; rfl
  rw [if_pos z0, cd_f (by omega)]
  have s0 := smz_DStory a0 (by omega)
  obtain ⟨r, hs, hi⟩ := ex_FnExactPastOk a0 w0 (by omega)
  have F := True.intro
  have f0 := hs
  have f1 := hi
  have f2 := to_Story a0 s0
  have f3 := eq_Story a0 a0 s0
  simp only [f0, f1, f2, f3, Option.bind_some, cd_F, Bool.not_true, decide_true, beq_self_eq_true]

theorem math_FnExactPastDo (a0 : DStory) (a1 : List DPart) (a2 : List Int) (w0 : wfDStory a0) (w1 : (wfL wfDPart) a1) (w2 : (wfL wfI) a2) : x_laws_FnExactPastDo a0 a1 a2 = some true := by
  unfold x_laws_FnExactPastDo
  by_cases g2 : (1048576 : Int) < (a2.length : Int)
  · rw [cd_t g2]
  rw [cd_f g2]
  rw [sz_Story a0 _ w0 (by omega) (by omega), Option.bind_some]
  by_cases z0 : (szDStory a0 : Int) ≤ 1048576
  case neg => rw [if_neg z0]; rfl
  rw [if_pos z0, cd_f (by omega)]
  rw [sz_PartS a1 _ w1 (by omega) (by omega), Option.bind_some]
  by_cases z1 : ((lenL szDPart) a1 : Int) ≤ 1048576 - (szDStory a0 : Int)
  case neg => rw [if_neg z1]; rfl
  rw [if_pos z1, cd_f (by omega)]
  have s0 := smz_DStory a0 (by omega)
  have s1 := (smz_L smz_DPart) a1 (by omega)
  have s2 : (smL smI) a2 := ⟨by omega, fun x _ => trivial⟩
  obtain ⟨r, hs, hi, q0⟩ := ex_FnExactPastDo a0 a1 a2 w0 w1 w2 (by omega) (by omega) (by omega)
  have y0 := smz_DStory (r.1) (by omega)
  have c0 := cvz_DStory a0
  have c1 := (cnz_S cnz_DPart) a1
  have c2 := (cnz_S cnz_I) a2
  rw [lenL_z (c := szI) (fun _ => rfl)] at c2
  have d0 := cvz_DStory (r.1)
  have e0 : (⟨r.1.n, (mvDStory r.1 (1 : Int)).undo, (mvDStory r.1 (1 : Int)).redo⟩ : DStory) = mvDStory (r.1) (1 : Int) := rfl
  have F := True.intro
  have f0 := hs
  have f1 := hi
  have f2 := eq_Story (r.1) (r.1) y0
  have f3 := to_Story a0 s0
  have f4 := eq_Story a0 a0 s0
  have f5 := to_PartS a1 s1
  have f6 := eq_PartS a1 a1 s1
  have f7 := to_IntS a2 s2
  have f8 := eq_IntS a2 a2 s2
  have f9 := mark_Story a0 (1 : Int) s0 (by omega) (by omega)
  have f10 := mark_PartS a1 ((1 : Int) + (cvDStory a0 : Int)) s1 (by omega) (by omega)
  have f11 := mark_IntS a2 ((1 : Int) + (cvDStory a0 : Int) + ((sumL cnDPart) a1 : Int)) s2 (by omega) (by omega)
  have f12 := decide_eq_false (p := (1 : Int) + (cvDStory a0 : Int) + ((sumL cnDPart) a1 : Int) + ((sumL cnI) a2 : Int) < 0) (by omega)
  have f13 := mark_Story (r.1) (1 : Int) y0 (by omega) (by omega)
  have f14 := held_Story (r.1) (1 : Int) y0 (by omega) (by omega)
  have f15 := decide_eq_false (p := (1 : Int) + (cvDStory (r.1) : Int) < 0) (by omega)
  simp only [f0, f1, f2, f3, f4, f5, f6, f7, f8, f9, f10, f11, f12, f13, f14, f15, e0, Option.bind_some, cd_F, Bool.not_true, decide_true, beq_self_eq_true]

theorem math_FnExactPastUndo (a0 : DStory) (a1 : List Int) (w0 : wfDStory a0) (w1 : (wfL wfI) a1) : x_laws_FnExactPastUndo a0 a1 = some true := by
  unfold x_laws_FnExactPastUndo
  by_cases g1 : (1048576 : Int) < (a1.length : Int)
  · rw [cd_t g1]
  rw [cd_f g1]
  rw [sz_Story a0 _ w0 (by omega) (by omega), Option.bind_some]
  by_cases z0 : (szDStory a0 : Int) ≤ 1048576
  case neg => rw [if_neg z0]; rfl
  rw [if_pos z0, cd_f (by omega)]
  have s0 := smz_DStory a0 (by omega)
  have s1 : (smL smI) a1 := ⟨by omega, fun x _ => trivial⟩
  obtain ⟨r, hs, hi, q0, q1⟩ := ex_FnExactPastUndo a0 a1 w0 w1 (by omega) (by omega)
  have y0 := smz_DStory (r.1) (by omega)
  have y1 := (smz_L smz_DPart) (r.2.1) (by omega)
  have c0 := cvz_DStory a0
  have c1 := (cnz_S cnz_I) a1
  rw [lenL_z (c := szI) (fun _ => rfl)] at c1
  have d0 := cvz_DStory (r.1)
  have e0 : (⟨r.1.n, (mvDStory r.1 (1 : Int)).undo, (mvDStory r.1 (1 : Int)).redo⟩ : DStory) = mvDStory (r.1) (1 : Int) := rfl
  have d1 := (cnz_S cnz_DPart) (r.2.1)
  have F := True.intro
  have f0 := hs
  have f1 := hi
  have f2 := eq_Story (r.1) (r.1) y0
  have f3 := eq_PartS (r.2.1) (r.2.1) y1
  have f4 := to_Story a0 s0
  have f5 := eq_Story a0 a0 s0
  have f6 := to_IntS a1 s1
  have f7 := eq_IntS a1 a1 s1
  have f8 := mark_Story a0 (1 : Int) s0 (by omega) (by omega)
  have f9 := mark_IntS a1 ((1 : Int) + (cvDStory a0 : Int)) s1 (by omega) (by omega)
  have f10 := decide_eq_false (p := (1 : Int) + (cvDStory a0 : Int) + ((sumL cnI) a1 : Int) < 0) (by omega)
  have f11 := mark_Story (r.1) (1 : Int) y0 (by omega) (by omega)
  have f12 := held_Story (r.1) (1 : Int) y0 (by omega) (by omega)
  have f13 := decide_eq_false (p := (1 : Int) + (cvDStory (r.1) : Int) < 0) (by omega)
  have f14 := mark_PartS (r.2.1) ((1 : Int) + (cvDStory (r.1) : Int)) y1 (by omega) (by omega)
  have f15 := held_PartS (r.2.1) ((1 : Int) + (cvDStory (r.1) : Int)) y1 (by omega) (by omega)
  have f16 := decide_eq_false (p := (1 : Int) + (cvDStory (r.1) : Int) + ((sumL cnDPart) (r.2.1) : Int) < 0) (by omega)
  simp only [f0, f1, f2, f3, f4, f5, f6, f7, f8, f9, f10, f11, f12, f13, f14, f15, f16, e0, Option.bind_some, cd_F, Bool.not_true, decide_true, beq_self_eq_true]

theorem math_FnExactPastRedo (a0 : DStory) (a1 : List Int) (w0 : wfDStory a0) (w1 : (wfL wfI) a1) : x_laws_FnExactPastRedo a0 a1 = some true := by
  unfold x_laws_FnExactPastRedo
  by_cases g1 : (1048576 : Int) < (a1.length : Int)
  · rw [cd_t g1]
  rw [cd_f g1]
  rw [sz_Story a0 _ w0 (by omega) (by omega), Option.bind_some]
  by_cases z0 : (szDStory a0 : Int) ≤ 1048576
  case neg => rw [if_neg z0]; rfl
  rw [if_pos z0, cd_f (by omega)]
  have s0 := smz_DStory a0 (by omega)
  have s1 : (smL smI) a1 := ⟨by omega, fun x _ => trivial⟩
  obtain ⟨r, hs, hi, q0, q1⟩ := ex_FnExactPastRedo a0 a1 w0 w1 (by omega) (by omega)
  have y0 := smz_DStory (r.1) (by omega)
  have y1 := (smz_L smz_DPart) (r.2.1) (by omega)
  have c0 := cvz_DStory a0
  have c1 := (cnz_S cnz_I) a1
  rw [lenL_z (c := szI) (fun _ => rfl)] at c1
  have d0 := cvz_DStory (r.1)
  have e0 : (⟨r.1.n, (mvDStory r.1 (1 : Int)).undo, (mvDStory r.1 (1 : Int)).redo⟩ : DStory) = mvDStory (r.1) (1 : Int) := rfl
  have d1 := (cnz_S cnz_DPart) (r.2.1)
  have F := True.intro
  have f0 := hs
  have f1 := hi
  have f2 := eq_Story (r.1) (r.1) y0
  have f3 := eq_PartS (r.2.1) (r.2.1) y1
  have f4 := to_Story a0 s0
  have f5 := eq_Story a0 a0 s0
  have f6 := to_IntS a1 s1
  have f7 := eq_IntS a1 a1 s1
  have f8 := mark_Story a0 (1 : Int) s0 (by omega) (by omega)
  have f9 := mark_IntS a1 ((1 : Int) + (cvDStory a0 : Int)) s1 (by omega) (by omega)
  have f10 := decide_eq_false (p := (1 : Int) + (cvDStory a0 : Int) + ((sumL cnI) a1 : Int) < 0) (by omega)
  have f11 := mark_Story (r.1) (1 : Int) y0 (by omega) (by omega)
  have f12 := held_Story (r.1) (1 : Int) y0 (by omega) (by omega)
  have f13 := decide_eq_false (p := (1 : Int) + (cvDStory (r.1) : Int) < 0) (by omega)
  have f14 := mark_PartS (r.2.1) ((1 : Int) + (cvDStory (r.1) : Int)) y1 (by omega) (by omega)
  have f15 := held_PartS (r.2.1) ((1 : Int) + (cvDStory (r.1) : Int)) y1 (by omega) (by omega)
  have f16 := decide_eq_false (p := (1 : Int) + (cvDStory (r.1) : Int) + ((sumL cnDPart) (r.2.1) : Int) < 0) (by omega)
  simp only [f0, f1, f2, f3, f4, f5, f6, f7, f8, f9, f10, f11, f12, f13, f14, f15, f16, e0, Option.bind_some, cd_F, Bool.not_true, decide_true, beq_self_eq_true]

end Go.Proofs.Ytnpfbhejekpmaaa
