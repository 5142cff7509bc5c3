/- Laws of exactness, from what both functions give. No condition. -/
import Derived.Test.YtbapjbanejimiaaDa
import Derived.Test.YtbapjbanejimiaaLa
namespace Go.Proofs.Ytbapjbanejimiaa

theorem math_FnExactDocBytes (a0 : DDoc) (w0 : wfDDoc a0) : x_laws_FnExactDocBytes a0 = some true := by
  unfold x_laws_FnExactDocBytes
  rw [sz_Doc a0 _ w0 (by omega) (by omega), Option.bind_some]
  by_cases z0 : (szDDoc a0 : Int) ≤ 1048576
  case neg => rw [if_neg z0]; rfl
  rw [if_pos z0, cd_f (by omega)]
  have s0 := smz_DDoc a0 (by omega)
  obtain ⟨r, hs, hi, q0⟩ := ex_FnExactDocBytes a0 w0 (by omega)
  have y0 := (smz_L smz_Y) (r.1) (by omega)
  have c0 := cvz_DDoc a0
  have d0 := (cnz_S cnz_Y) (r.1)
  have F := True.intro
  have f0 := hs
  have f1 := hi
  have f2 := eq_ByteS (r.1) (r.1) y0
  have f3 := to_Doc a0 s0
  have f4 := eq_Doc a0 a0 s0
  have f5 := mark_Doc a0 (1 : Int) s0 (by omega) (by omega)
  have f6 := decide_eq_false (p := (1 : Int) + (cvDDoc a0 : Int) < 0) (by omega)
  have f7 := mark_ByteS (r.1) (1 : Int) y0 (by omega) (by omega)
  have f8 := held_ByteS (r.1) (1 : Int) y0 (by omega) (by omega)
  have f9 := decide_eq_false (p := (1 : Int) + ((sumL cnY) (r.1) : Int) < 0) (by omega)
  simp only [f0, f1, f2, f3, f4, f5, f6, f7, f8, f9, Option.bind_some, cd_T, cd_F, Bool.not_true, Bool.not_false, decide_true, beq_self_eq_true]

end Go.Proofs.Ytbapjbanejimiaa
