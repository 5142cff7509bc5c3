/- Laws of exactness, from what both functions give. No condition. -/
import Derived.Test.YtdfjkipdmeomdaaMD
import Derived.Test.YtdfjkipdmeomdaaLa
namespace Go.Proofs.Ytdfjkipdmeomdaa

theorem math_FnExactRowsPut (a0 : List Int) (a1 : Int) (a2 : List Int) (w0 : (wfL wfI) a0) (w1 : wfI a1) (w2 : (wfL wfI) a2) : x_laws_FnExactRowsPut a0 a1 a2 = some true := by
  unfold x_laws_FnExactRowsPut
  by_cases g0 : (1048576 : Int) < (a0.length : Int)
  · rw [cd_t g0]
  rw [cd_f g0]
  by_cases g2 : (1048576 : Int) < (a2.length : Int)
  · rw [cd_t g2]
  rw [cd_f g2]
  have s0 : (smL smI) a0 := ⟨by omega, fun x _ => trivial⟩
  have s2 : (smL smI) a2 := ⟨by omega, fun x _ => trivial⟩
  obtain ⟨r, hs, hi, q0⟩ := ex_FnExactRowsPut a0 a1 a2 w0 w1 w2 (by omega) (by omega)
  have y0 := (smz_L smz_DPart) (r.1) (by omega)
  have c0 := (cnz_S cnz_I) a0
  rw [lenL_z (c := szI) (fun _ => rfl)] at c0
  have c2 := (cnz_S cnz_I) a2
  rw [lenL_z (c := szI) (fun _ => rfl)] at c2
  have d0 := (cnz_S cnz_DPart) (r.1)
  have F := True.intro
  have f0 := hs
  have f1 := hi
  have f2 := eq_PartS (r.1) (r.1) y0
  have f3 := to_IntS a0 s0
  have f4 := eq_IntS a0 a0 s0
  have f5 := to_IntS a2 s2
  have f6 := eq_IntS a2 a2 s2
  have f7 := mark_IntS a0 (1 : Int) s0 (by omega) (by omega)
  have f8 := mark_IntS a2 ((1 : Int) + ((sumL cnI) a0 : Int)) s2 (by omega) (by omega)
  have f9 := decide_eq_false (p := (1 : Int) + ((sumL cnI) a0 : Int) + ((sumL cnI) a2 : Int) < 0) (by omega)
  have f10 := mark_PartS (r.1) (1 : Int) y0 (by omega) (by omega)
  have f11 := held_PartS (r.1) (1 : Int) y0 (by omega) (by omega)
  have f12 := decide_eq_false (p := (1 : Int) + ((sumL cnDPart) (r.1) : Int) < 0) (by omega)
  simp only [f0, f1, f2, f3, f4, f5, f6, f7, f8, f9, f10, f11, f12, Option.bind_some, cd_F, Bool.not_true, decide_true, beq_self_eq_true]

end Go.Proofs.Ytdfjkipdmeomdaa
