/- Laws of exactness, from what both functions give. No condition. -/
import Derived.Test.YthfkcpdechjmnaaMK
import Derived.Test.YthfkcpdechjmnaaLa
namespace Go.Proofs.Ythfkcpdechjmnaa

theorem math_FnExactSquash (a0 : List DEntry) (w0 : (wfL wfDEntry) a0) : x_laws_FnExactSquash a0 = some true := by
  unfold x_laws_FnExactSquash
  rw [sz_EntryS a0 _ w0 (by omega) (by omega), Option.bind_some]
  by_cases z0 : ((lenL szDEntry) a0 : Int) ≤ 1048576
  case neg => rw [if_neg z0]; rfl
  rw [if_pos z0, cd_f (by omega)]
  have s0 := (smz_L smz_DEntry) a0 (by omega)
  obtain ⟨r, hs, hi, q0⟩ := ex_FnExactSquash a0 w0 (by omega)
  have y0 := (smz_L smz_DEntry) (r.1) (by omega)
  have c0 := (cnz_S cnz_DEntry) a0
  have d0 := (cnz_S cnz_DEntry) (r.1)
  have F := True.intro
  have f0 := hs
  have f1 := hi
  have f2 := eq_EntryS (r.1) (r.1) y0
  have f3 := to_EntryS a0 s0
  have f4 := eq_EntryS a0 a0 s0
  have f5 := mark_EntryS a0 (1 : Int) s0 (by omega) (by omega)
  have f6 := decide_eq_false (p := (1 : Int) + ((sumL cnDEntry) a0 : Int) < 0) (by omega)
  have f7 := mark_EntryS (r.1) (1 : Int) y0 (by omega) (by omega)
  have f8 := held_EntryS (r.1) (1 : Int) y0 (by omega) (by omega)
  have f9 := decide_eq_false (p := (1 : Int) + ((sumL cnDEntry) (r.1) : Int) < 0) (by omega)
  simp only [f0, f1, f2, f3, f4, f5, f6, f7, f8, f9, Option.bind_some, cd_T, cd_F, Bool.not_true, Bool.not_false, decide_true, beq_self_eq_true]

end Go.Proofs.Ythfkcpdechjmnaa
