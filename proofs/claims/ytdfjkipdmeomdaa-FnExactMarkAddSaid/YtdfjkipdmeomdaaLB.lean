/- Laws of exactness, from what both functions give. No condition. -/
import Derived.Test.YtdfjkipdmeomdaaFm
import Derived.Test.YtdfjkipdmeomdaaLa
namespace Go.Proofs.Ytdfjkipdmeomdaa

theorem math_FnExactMarkAdd (a0 : List DMark) (a1 : Int) (a2 : Int) (a3 : Int) (a4 : Int) (w0 : (wfL wfDMark) a0) (w1 : wfI a1) (w2 : wfI a2) (w3 : wfI a3) (w4 : wfI a4) : x_laws_FnExactMarkAdd a0 a1 a2 a3 a4 = some true := by
  unfold x_laws_FnExactMarkAdd
  rw [sz_MarkS a0 _ w0 (by omega) (by omega), Option.bind_some]
  by_cases z0 : ((lenL szDMark) a0 : Int) ≤ 1048576
  case neg => rw [if_neg z0]; rfl
  rw [if_pos z0, cd_f (by omega)]
  have s0 := (smz_L smz_DMark) a0 (by omega)
  obtain ⟨r, hs, hi, q0⟩ := ex_FnExactMarkAdd a0 a1 a2 a3 a4 w0 w1 w2 w3 w4 (by omega)
  have y0 := (smz_L smz_DMark) (r.1) (by omega)
  have c0 := (cnz_S cnz_DMark) a0
  have d0 := (cnz_S cnz_DMark) (r.1)
  have F := True.intro
  have f0 := hs
  have f1 := hi
  have f2 := eq_MarkS (r.1) (r.1) y0
  have f3 := to_MarkS a0 s0
  have f4 := eq_MarkS a0 a0 s0
  have f5 := mark_MarkS a0 (1 : Int) s0 (by omega) (by omega)
  have f6 := decide_eq_false (p := (1 : Int) + ((sumL cnDMark) a0 : Int) < 0) (by omega)
  have f7 := mark_MarkS (r.1) (1 : Int) y0 (by omega) (by omega)
  have f8 := held_MarkS (r.1) (1 : Int) y0 (by omega) (by omega)
  have f9 := decide_eq_false (p := (1 : Int) + ((sumL cnDMark) (r.1) : Int) < 0) (by omega)
  simp only [f0, f1, f2, f3, f4, f5, f6, f7, f8, f9, Option.bind_some, cd_F, Bool.not_true, decide_true, beq_self_eq_true]

end Go.Proofs.Ytdfjkipdmeomdaa
