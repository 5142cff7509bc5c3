/- Laws of exactness, from what both functions give. No condition. -/
import Derived.Test.YtbghemgoeemdfaaM3
import Derived.Test.YtbghemgoeemdfaaLc
namespace Go.Proofs.Ytbghemgoeemdfaa

theorem math_FnExactMergeOps (a0 : List (List DPart)) (a1 : Int) (w0 : (wfL (wfL wfDPart)) a0) (w1 : wfI a1) : x_laws_FnExactMergeOps a0 a1 = some true := by
  unfold x_laws_FnExactMergeOps
  rw [sz_PartSS a0 _ w0 (by omega) (by omega), Option.bind_some]
  by_cases z0 : ((lenL (lenL szDPart)) a0 : Int) ≤ 1048576
  case neg => rw [if_neg z0]; rfl
  rw [if_pos z0, cd_f (by omega)]
  have s0 := (smz_L (smz_L smz_DPart)) a0 (by omega)
  obtain ⟨r, hs, hi, q0⟩ := ex_FnExactMergeOps a0 a1 w0 w1 (by omega)
  have y0 := (smz_L smz_DPart) (r.1) (by omega)
  have c0 := (cnz_S (cnz_L cnz_DPart)) a0
  have d0 := (cnz_S cnz_DPart) (r.1)
  have F := True.intro
  have f0 := hs
  have f1 := hi
  have f2 := eq_PartS (r.1) (r.1) y0
  have f3 := to_PartSS a0 s0
  have f4 := eq_PartSS a0 a0 s0
  have f5 := mark_PartSS a0 (1 : Int) s0 (by omega) (by omega)
  have f6 := decide_eq_false (p := (1 : Int) + ((sumL (sumL cnDPart)) a0 : Int) < 0) (by omega)
  have f7 := mark_PartS (r.1) (1 : Int) y0 (by omega) (by omega)
  have f8 := held_PartS (r.1) (1 : Int) y0 (by omega) (by omega)
  have f9 := decide_eq_false (p := (1 : Int) + ((sumL cnDPart) (r.1) : Int) < 0) (by omega)
  simp only [f0, f1, f2, f3, f4, f5, f6, f7, f8, f9, Option.bind_some, cd_F, Bool.not_true, decide_true, beq_self_eq_true]

end Go.Proofs.Ytbghemgoeemdfaa
