/- Laws of exactness, from what both functions give. No condition. -/
import Derived.Test.YtbghemgoeemdfaaMe
import Derived.Test.YtbghemgoeemdfaaLa
namespace Go.Proofs.Ytbghemgoeemdfaa

theorem math_FnExactGains (a0 : List DEntry) (a1 : Int) (w0 : (wfL wfDEntry) a0) (w1 : wfI a1) : x_laws_FnExactGains a0 a1 = some true := by
  unfold x_laws_FnExactGains
  rw [sz_EntryS a0 _ w0 (by omega) (by omega), Option.bind_some]
  by_cases z0 : ((lenL szDEntry) a0 : Int) ≤ 1048576
  case neg => rw [if_neg z0]; rfl
  rw [if_pos z0, cd_f (by omega)]
  have s0 := (smz_L smz_DEntry) a0 (by omega)
  obtain ⟨r, hs, hi⟩ := ex_FnExactGains a0 a1 w0 w1 (by omega)
  have F := True.intro
  have f0 := hs
  have f1 := hi
  have f2 := to_EntryS a0 s0
  have f3 := eq_EntryS a0 a0 s0
  simp only [f0, f1, f2, f3, Option.bind_some, cd_F, Bool.not_true, decide_true]

theorem math_FnExactFold (a0 : List Int) (a1 : List DEntry) (w0 : (wfL wfI) a0) (w1 : (wfL wfDEntry) a1) : x_laws_FnExactFold a0 a1 = some true := by
  unfold x_laws_FnExactFold
  by_cases g0 : (1048576 : Int) < (a0.length : Int)
  · rw [cd_t g0]
  rw [cd_f g0]
  rw [sz_EntryS a1 _ w1 (by omega) (by omega), Option.bind_some]
  by_cases z1 : ((lenL szDEntry) a1 : Int) ≤ 1048576
  case neg => rw [if_neg z1]; rfl
  rw [if_pos z1, cd_f (by omega)]
  have s0 : (smL smI) a0 := ⟨by omega, fun x _ => trivial⟩
  have s1 := (smz_L smz_DEntry) a1 (by omega)
  obtain ⟨r, hs, hi, q0⟩ := ex_FnExactFold a0 a1 w0 w1 (by omega) (by omega)
  have y0 := (smz_L smz_I) (r.1) (by omega)
  have c0 := (cnz_S cnz_I) a0
  rw [lenL_z (c := szI) (fun _ => rfl)] at c0
  have c1 := (cnz_S cnz_DEntry) a1
  have d0 := (cnz_S cnz_I) (r.1)
  have F := True.intro
  have f0 := hs
  have f1 := hi
  have f2 := eq_IntS (r.1) (r.1) y0
  have f3 := to_IntS a0 s0
  have f4 := eq_IntS a0 a0 s0
  have f5 := to_EntryS a1 s1
  have f6 := eq_EntryS a1 a1 s1
  have f7 := mark_IntS a0 (1 : Int) s0 (by omega) (by omega)
  have f8 := mark_EntryS a1 ((1 : Int) + ((sumL cnI) a0 : Int)) s1 (by omega) (by omega)
  have f9 := decide_eq_false (p := (1 : Int) + ((sumL cnI) a0 : Int) + ((sumL cnDEntry) a1 : Int) < 0) (by omega)
  have f10 := mark_IntS (r.1) (1 : Int) y0 (by omega) (by omega)
  have f11 := held_IntS (r.1) (1 : Int) y0 (by omega) (by omega)
  have f12 := decide_eq_false (p := (1 : Int) + ((sumL cnI) (r.1) : Int) < 0) (by omega)
  simp only [f0, f1, f2, f3, f4, f5, f6, f7, f8, f9, f10, f11, f12, Option.bind_some, cd_F, Bool.not_true, decide_true, beq_self_eq_true]

end Go.Proofs.Ytbghemgoeemdfaa
