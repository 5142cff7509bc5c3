/- Laws of exactness, from what both functions give. No condition. -/
import Derived.Test.YtjbonmmmcnpjiaaGreatDoorKb
import Derived.Test.YtjbonmmmcnpjiaaGreatDoorLa
namespace Go.Proofs.YtjbonmmmcnpjiaaGreatDoor

theorem math_FnExactCallTexts (a0 : DWorld) (w0 : wfDWorld a0) : x_laws_FnExactCallTexts a0 = some true := by
  unfold x_laws_FnExactCallTexts
  rw [sz_World a0 _ w0 (by omega) (by omega), Option.bind_some]
  by_cases z0 : (szDWorld a0 : Int) ≤ 1048576
  case neg => rw [if_neg z0]; rfl
  rw [if_pos z0, cd_f (by omega)]
  have s0 := smz_DWorld a0 (by omega)
  obtain ⟨r, hs, hi, q0⟩ := ex_FnExactCallTexts a0 w0 (by omega)
  have y0 := (smz_L smz_T) (r) (by omega)
  have c0 := cvz_DWorld a0
  have d0 := (cnz_S cnz_T) (r)
  have F := True.intro
  have f0 := hs
  have f1 := hi
  have f2 := eq_StringS (r) (r) y0
  have f3 := to_World a0 s0
  have f4 := eq_World a0 a0 s0
  have f5 := mark_World a0 (1 : Int) s0 (by omega) (by omega)
  have f6 := decide_eq_false (p := (1 : Int) + (cvDWorld a0 : Int) < 0) (by omega)
  have f7 := mark_StringS (r) (1 : Int) y0 (by omega) (by omega)
  have f8 := held_StringS (r) (1 : Int) y0 (by omega) (by omega)
  have f9 := decide_eq_false (p := (1 : Int) + ((sumL cnT) (r) : Int) < 0) (by omega)
  simp only [f0, f1, f2, f3, f4, f5, f6, f7, f8, f9, Option.bind_some, cd_F, Bool.not_true, decide_true]

end Go.Proofs.YtjbonmmmcnpjiaaGreatDoor
