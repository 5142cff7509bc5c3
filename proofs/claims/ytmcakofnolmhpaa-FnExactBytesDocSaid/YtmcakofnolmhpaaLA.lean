/- Laws of exactness, from what both functions give. No condition. -/
import Derived.Test.YtmcakofnolmhpaaDg
import Derived.Test.YtmcakofnolmhpaaLa
namespace Go.Proofs.Ytmcakofnolmhpaa

theorem math_FnExactBytesDoc (a0 : ByteArray) (a1 : List UInt8) (w0 : wfT a0) (w1 : (wfL wfY) a1) : x_laws_FnExactBytesDoc a0 a1 = some true := by
  unfold x_laws_FnExactBytesDoc
  by_cases g0 : (1048576 : Int) < (a0.size : Int)
  · rw [cd_t g0]
  rw [cd_f g0]
  by_cases g1 : (1048576 : Int) < (a1.length : Int)
  · rw [cd_t g1]
  rw [cd_f g1]
  have s1 : (smL smY) a1 := ⟨by omega, fun x _ => trivial⟩
  obtain ⟨r, hs, hi, q0⟩ := ex_FnExactBytesDoc a0 a1 w0 w1 (by omega) (by omega)
  have y0 := smz_DDoc (r.1) (by omega)
  have c1 := (cnz_S cnz_Y) a1
  rw [lenL_z (c := szY) (fun _ => rfl)] at c1
  have d0 := cvz_DDoc (r.1)
  have e0 : (⟨r.1.name, r.1.from_, (mvDDoc r.1 (1 : Int)).text, (mvDDoc r.1 (1 : Int)).list, (mvDDoc r.1 (1 : Int)).seen⟩ : DDoc) = mvDDoc (r.1) (1 : Int) := rfl
  have F := True.intro
  have f0 := hs
  have f1 := hi
  have f2 := eq_Doc (r.1) (r.1) y0
  have f3 := to_ByteS a1 s1
  have f4 := eq_ByteS a1 a1 s1
  have f5 := mark_ByteS a1 (1 : Int) s1 (by omega) (by omega)
  have f6 := decide_eq_false (p := (1 : Int) + ((sumL cnY) a1 : Int) < 0) (by omega)
  have f7 := mark_Doc (r.1) (1 : Int) y0 (by omega) (by omega)
  have f8 := held_Doc (r.1) (1 : Int) y0 (by omega) (by omega)
  have f9 := decide_eq_false (p := (1 : Int) + (cvDDoc (r.1) : Int) < 0) (by omega)
  simp only [f0, f1, f2, f3, f4, f5, f6, f7, f8, f9, e0, Option.bind_some, cd_T, cd_F, Bool.not_true, Bool.not_false, decide_true, beq_self_eq_true]

end Go.Proofs.Ytmcakofnolmhpaa
