/- Laws of exactness, from what both functions give. No condition. -/
import Derived.Test.YthnnhoabdhhkaaaMi
import Derived.Test.YthnnhoabdhhkaaaLa
namespace Go.Proofs.Ythnnhoabdhhkaaa

theorem math_FnExactDiff (a0 : List Int) (a1 : List Int) (w0 : (wfL wfI) a0) (w1 : (wfL wfI) a1) : x_laws_FnExactDiff a0 a1 = some true := by
  unfold x_laws_FnExactDiff
  by_cases g0 : (1048576 : Int) < (a0.length : Int)
  · rw [cd_t g0]
  rw [cd_f g0]
  by_cases g1 : (1048576 : Int) < (a1.length : Int)
  · rw [cd_t g1]
  rw [cd_f g1]
  have s0 : (smL smI) a0 := ⟨by omega, fun x _ => trivial⟩
  have s1 : (smL smI) a1 := ⟨by omega, fun x _ => trivial⟩
  obtain ⟨r, hs, hi, q0⟩ := ex_FnExactDiff a0 a1 w0 w1 (by omega) (by omega)
  have y0 := (smz_L smz_DPart) (r.1) (by omega)
  have c0 := (cnz_S cnz_I) a0
  rw [lenL_z (c := szI) (fun _ => rfl)] at c0
  have c1 := (cnz_S cnz_I) a1
  rw [lenL_z (c := szI) (fun _ => rfl)] at c1
  have d0 := (cnz_S cnz_DPart) (r.1)
  have F := True.intro
  have f0 := hs
  have f1 := hi
  have f2 := eq_PartS (r.1) (r.1) y0
  have f3 := to_IntS a0 s0
  have f4 := eq_IntS a0 a0 s0
  have f5 := to_IntS a1 s1
  have f6 := eq_IntS a1 a1 s1
  have f7 := mark_IntS a0 (1 : Int) s0 (by omega) (by omega)
  have f8 := mark_IntS a1 ((1 : Int) + ((sumL cnI) a0 : Int)) s1 (by omega) (by omega)
  have f9 := decide_eq_false (p := (1 : Int) + ((sumL cnI) a0 : Int) + ((sumL cnI) a1 : Int) < 0) (by omega)
  have f10 := mark_PartS (r.1) (1 : Int) y0 (by omega) (by omega)
  have f11 := held_PartS (r.1) (1 : Int) y0 (by omega) (by omega)
  have f12 := decide_eq_false (p := (1 : Int) + ((sumL cnDPart) (r.1) : Int) < 0) (by omega)
  simp only [f0, f1, f2, f3, f4, f5, f6, f7, f8, f9, f10, f11, f12, Option.bind_some, cd_F, Bool.not_true, decide_true, beq_self_eq_true]

theorem math_FnExactCommon (a0 : List Int) (a1 : List Int) (w0 : (wfL wfI) a0) (w1 : (wfL wfI) a1) : x_laws_FnExactCommon a0 a1 = some true := by
  unfold x_laws_FnExactCommon
  by_cases g0 : (1048576 : Int) < (a0.length : Int)
  · rw [cd_t g0]
  rw [cd_f g0]
  by_cases g1 : (1048576 : Int) < (a1.length : Int)
  · rw [cd_t g1]
  rw [cd_f g1]
  have s0 : (smL smI) a0 := ⟨by omega, fun x _ => trivial⟩
  have s1 : (smL smI) a1 := ⟨by omega, fun x _ => trivial⟩
  obtain ⟨r, hs, hi, q0⟩ := ex_FnExactCommon a0 a1 w0 w1 (by omega) (by omega)
  have y0 := (smz_L smz_I) (r) (by omega)
  have c0 := (cnz_S cnz_I) a0
  rw [lenL_z (c := szI) (fun _ => rfl)] at c0
  have c1 := (cnz_S cnz_I) a1
  rw [lenL_z (c := szI) (fun _ => rfl)] at c1
  have d0 := (cnz_S cnz_I) (r)
  have F := True.intro
  have f0 := hs
  have f1 := hi
  have f2 := eq_IntS (r) (r) y0
  have f3 := to_IntS a0 s0
  have f4 := eq_IntS a0 a0 s0
  have f5 := to_IntS a1 s1
  have f6 := eq_IntS a1 a1 s1
  have f7 := mark_IntS a0 (1 : Int) s0 (by omega) (by omega)
  have f8 := mark_IntS a1 ((1 : Int) + ((sumL cnI) a0 : Int)) s1 (by omega) (by omega)
  have f9 := decide_eq_false (p := (1 : Int) + ((sumL cnI) a0 : Int) + ((sumL cnI) a1 : Int) < 0) (by omega)
  have f10 := mark_IntS (r) (1 : Int) y0 (by omega) (by omega)
  have f11 := held_IntS (r) (1 : Int) y0 (by omega) (by omega)
  have f12 := decide_eq_false (p := (1 : Int) + ((sumL cnI) (r) : Int) < 0) (by omega)
  simp only [f0, f1, f2, f3, f4, f5, f6, f7, f8, f9, f10, f11, f12, Option.bind_some, cd_F, Bool.not_true, decide_true]

theorem math_FnExactCost (a0 : List Int) (a1 : List Int) (w0 : (wfL wfI) a0) (w1 : (wfL wfI) a1) : x_laws_FnExactCost a0 a1 = some true := by
  unfold x_laws_FnExactCost
  by_cases g0 : (1048576 : Int) < (a0.length : Int)
  · rw [cd_t g0]
  rw [cd_f g0]
  by_cases g1 : (1048576 : Int) < (a1.length : Int)
  · rw [cd_t g1]
  rw [cd_f g1]
  have s0 : (smL smI) a0 := ⟨by omega, fun x _ => trivial⟩
  have s1 : (smL smI) a1 := ⟨by omega, fun x _ => trivial⟩
  obtain ⟨r, hs, hi⟩ := ex_FnExactCost a0 a1 w0 w1 (by omega) (by omega)
  have F := True.intro
  have f0 := hs
  have f1 := hi
  have f2 := to_IntS a0 s0
  have f3 := eq_IntS a0 a0 s0
  have f4 := to_IntS a1 s1
  have f5 := eq_IntS a1 a1 s1
  simp only [f0, f1, f2, f3, f4, f5, Option.bind_some, cd_F, Bool.not_true, decide_true]

theorem math_FnExactNear (a0 : List Int) (a1 : List Int) (w0 : (wfL wfI) a0) (w1 : (wfL wfI) a1) : x_laws_FnExactNear a0 a1 = some true := by
  unfold x_laws_FnExactNear
  by_cases g0 : (1048576 : Int) < (a0.length : Int)
  · rw [cd_t g0]
  rw [cd_f g0]
  by_cases g1 : (1048576 : Int) < (a1.length : Int)
  · rw [cd_t g1]
  rw [cd_f g1]
  have s0 : (smL smI) a0 := ⟨by omega, fun x _ => trivial⟩
  have s1 : (smL smI) a1 := ⟨by omega, fun x _ => trivial⟩
  obtain ⟨r, hs, hi⟩ := ex_FnExactNear a0 a1 w0 w1 (by omega) (by omega)
  have F := True.intro
  have f0 := hs
  have f1 := hi
  have f2 := to_IntS a0 s0
  have f3 := eq_IntS a0 a0 s0
  have f4 := to_IntS a1 s1
  have f5 := eq_IntS a1 a1 s1
  simp only [f0, f1, f2, f3, f4, f5, Option.bind_some, cd_F, Bool.not_true, decide_true]

end Go.Proofs.Ythnnhoabdhhkaaa
