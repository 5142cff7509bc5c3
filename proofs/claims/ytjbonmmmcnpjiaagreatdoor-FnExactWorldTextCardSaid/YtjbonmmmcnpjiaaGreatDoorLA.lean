/- Laws of exactness, from what both functions give. No condition. -/
import Derived.Test.YtjbonmmmcnpjiaaGreatDoorHd
import Derived.Test.YtjbonmmmcnpjiaaGreatDoorLa
namespace Go.Proofs.YtjbonmmmcnpjiaaGreatDoor

theorem math_FnExactWorldText (a0 : DWorld) (w0 : wfDWorld a0) : x_laws_FnExactWorldText a0 = some true := by
  unfold x_laws_FnExactWorldText
  rw [sz_World a0 _ w0 (by omega) (by omega), Option.bind_some]
  by_cases z0 : (szDWorld a0 : Int) ≤ 1048576
  case neg => rw [if_neg z0]; rfl
  rw [if_pos z0, cd_f (by omega)]
  have s0 := smz_DWorld a0 (by omega)
  obtain ⟨r, hs, hi⟩ := ex_FnExactWorldText a0 w0 (by omega)
  have F := True.intro
  have f0 := hs
  have f1 := hi
  have f2 := to_World a0 s0
  have f3 := eq_World a0 a0 s0
  simp only [f0, f1, f2, f3, Option.bind_some, cd_F, Bool.not_true, decide_true]

end Go.Proofs.YtjbonmmmcnpjiaaGreatDoor
