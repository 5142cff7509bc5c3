/- Laws of exactness, from what both functions give. No condition. -/
import Derived.Test.YtbghemgoeemdfaaMx
import Derived.Test.YtbghemgoeemdfaaLb
namespace Go.Proofs.Ytbghemgoeemdfaa

theorem math_FnExactTells (a0 : DDoc) (a1 : Int) (a2 : List DEntry) (w0 : wfDDoc a0) (w1 : wfI a1) (w2 : (wfL wfDEntry) a2) : x_laws_FnExactTells a0 a1 a2 = some true := by
  unfold x_laws_FnExactTells
  rw [sz_Doc a0 _ w0 (by omega) (by omega), Option.bind_some]
  by_cases z0 : (szDDoc a0 : Int) ≤ 1048576
  case neg => rw [if_neg z0]; rfl
  rw [if_pos z0, cd_f (by omega)]
  rw [sz_EntryS a2 _ w2 (by omega) (by omega), Option.bind_some]
  by_cases z2 : ((lenL szDEntry) a2 : Int) ≤ 1048576 - (szDDoc a0 : Int)
  case neg => rw [if_neg z2]; rfl
  rw [if_pos z2, cd_f (by omega)]
  have s0 := smz_DDoc a0 (by omega)
  have s2 := (smz_L smz_DEntry) a2 (by omega)
  obtain ⟨r, hs, hi⟩ := ex_FnExactTells a0 a1 a2 w0 w1 w2 (by omega) (by omega)
  have F := True.intro
  have f0 := hs
  have f1 := hi
  have f2 := to_Doc a0 s0
  have f3 := eq_Doc a0 a0 s0
  have f4 := to_EntryS a2 s2
  have f5 := eq_EntryS a2 a2 s2
  simp only [f0, f1, f2, f3, f4, f5, Option.bind_some, cd_F, Bool.not_true, decide_true, beq_self_eq_true]

end Go.Proofs.Ytbghemgoeemdfaa
