/- Laws of exactness, from what both functions give. No condition. -/
import Derived.Test.YtbapjbanejimiaaML
import Derived.Test.YtbapjbanejimiaaLb
namespace Go.Proofs.Ytbapjbanejimiaa

theorem math_FnExactTaskText (a0 : DTask) (w0 : wfDTask a0) : x_laws_FnExactTaskText a0 = some true := by
  unfold x_laws_FnExactTaskText
  rw [sz_Task a0 _ w0 (by omega) (by omega), Option.bind_some]
  by_cases z0 : (szDTask a0 : Int) ≤ 1048576
  case neg => rw [if_neg z0]; rfl
  rw [if_pos z0, cd_f (by omega)]
  have s0 := smz_DTask a0 (by omega)
  obtain ⟨r, hs, hi⟩ := ex_FnExactTaskText a0 w0 (by omega)
  have F := True.intro
  have f0 := hs
  have f1 := hi
  have f2 := to_Task a0 s0
  have f3 := eq_Task a0 a0 s0
  simp only [f0, f1, f2, f3, Option.bind_some, cd_T, cd_F, Bool.not_true, Bool.not_false, decide_true, beq_self_eq_true]

end Go.Proofs.Ytbapjbanejimiaa
