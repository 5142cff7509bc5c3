/- Laws of exactness, from what both functions give. No condition. -/
import Derived.Test.YthnnhoabdhhkaaaMj
import Derived.Test.YthnnhoabdhhkaaaLb
namespace Go.Proofs.Ythnnhoabdhhkaaa

theorem math_FnExactPastNew (a0 : Int) (w0 : wfI a0) : x_laws_FnExactPastNew a0 = some true := by
  unfold x_laws_FnExactPastNew
  obtain ⟨r, hs, hi, q0⟩ := ex_FnExactPastNew a0 w0
  have y0 := smz_DStory (r.1) (by omega)
  have d0 := cvz_DStory (r.1)
  have e0 : (⟨r.1.n, (mvDStory r.1 (1 : Int)).undo, (mvDStory r.1 (1 : Int)).redo⟩ : DStory) = mvDStory (r.1) (1 : Int) := rfl
  have F := True.intro
  have f0 := hs
  have f1 := hi
  have f2 := eq_Story (r.1) (r.1) y0
  have f3 := mark_Story (r.1) (1 : Int) y0 (by omega) (by omega)
  have f4 := held_Story (r.1) (1 : Int) y0 (by omega) (by omega)
  have f5 := decide_eq_false (p := (1 : Int) + (cvDStory (r.1) : Int) < 0) (by omega)
  simp only [f0, f1, f2, f3, f4, f5, e0, Option.bind_some, cd_F, Bool.not_true, decide_true, beq_self_eq_true]

end Go.Proofs.Ythnnhoabdhhkaaa
