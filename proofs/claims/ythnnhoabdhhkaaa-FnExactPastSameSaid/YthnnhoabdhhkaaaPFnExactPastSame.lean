/- Proved: laws.FnExactPastSame returns true for every input and leaves its arguments as they were. Conditions: those of the given statement, no others. -/
import Derived.Test.YthnnhoabdhhkaaaRows
import Derived.Test.YthnnhoabdhhkaaaWT
import Derived.Test.YthnnhoabdhhkaaaVlH
import Derived.Test.YthnnhoabdhhkaaaVlJ
import Derived.WalkKit
import Derived.ProofKit
import Derived.OpenShut
import Derived.ShutString
import Derived.ChangeOld
import Derived.Below
namespace Go.Proofs.Ythnnhoabdhhkaaa.fnExactPastSame
open Go.ChangeShapes Go.WideShapes Go.ChangeAt Go.RowKit
open Go.ChangeMaps (open_string shut_string)

theorem own : ownKnob Try.prog.godebug = none := by kernel_rfl
theorem laidOut : laidOutB Try.prog = true := by kernel_rfl

set_option maxRecDepth 100000 in
theorem lifted (os : Os) (started : os.Started) (H : Type) (enc : TypeId × Value → H) :
    ReturnsInHanded {} Try.checked os 6 .any (Rows.fnExactPastSameSpec.pre6 enc Try.prog Try.f6 Rows.fnExactPastSameRow.domain false) (Rows.fnExactPastSameSpec.post enc Try.prog Try.f6 false true false false) := by
  refine returnsInHanded_of_change (C := Try.checked) own started (by kernel_rfl) Try.func6
    (ChangeSpec.witness6 (enc := enc) (C := Try.checked) false ⟨#[], #[.agg #[.int .i64 0, .slice none 0 0, .slice none 0 0], .agg #[.int .i64 0, .slice none 0 0, .slice none 0 0]], []⟩ 8 (by kernel_rfl) (by kernel_rfl) (by kernel_rfl) (by kernel_rfl)) ?_
  intro W base args ds gs before hval0 hW hcnd _
  have hval : ∀ (j : Nat) t v, Try.f6.params[j]? = some t → args[j]? = some v → Value.okWide Try.prog W .any base t v := hval0
  have hW' := hW
  obtain ⟨p, q, hA0, hV, rfl, hfz, hnd⟩ := hW
  have hA : DataW.TrodAll enc Try.prog W 0 (fun _ => true) true Try.f6.params.toList args.toList ds p := hA0
  rw [Try.params6] at hA hval
  obtain ⟨v0, vs0, d0, ds0, p0, q0, hargs, rfl, rfl, h0, r0⟩ := trodAll_cons hA
  obtain ⟨v1, vs1, d1, ds1, p1, q1, rfl, rfl, rfl, h1, r1⟩ := trodAll_cons r0
  obtain ⟨rfl, rfl, rfl⟩ := trodAll_nil r1
  obtain rfl : args = #[v0, v1] := by cases args; simp_all
  obtain ⟨rfl, rfl⟩ := trodVars_none hV
  have k0 := h0
  have lt0 : ∀ x ∈ p0, x.block < W.heap.size := by obtain ⟨m, hm⟩ := k0; exact DataW.trod_lt m _ _ _ hm
  obtain ⟨cs0, rfl, _, _⟩ : ∃ cs, v0 = .agg cs ∧ cs.size = Try.prog.cellsOf 30 ∧ _ := by have hq := hval 0 30 v0 rfl rfl; simp only [Value.okWide, Try.underlying30] at hq; exact hq
  obtain ⟨y0, hcs0, hin0⟩ : ∃ y, (dEl fS iS y).rd (fun b => b < W.heap.size) W cs0.toList := by
    obtain ⟨fuel, hf⟩ := h0
    exact (opensStory enc W 0 _ true fuel _ _ hf).2
  obtain rfl : cs0 = (fS y0).toArray := by rw [← hcs0]
  have k1 := h1
  have lt1 : ∀ x ∈ p1, x.block < W.heap.size := by obtain ⟨m, hm⟩ := k1; exact DataW.trod_lt m _ _ _ hm
  obtain ⟨cs1, rfl, _, _⟩ : ∃ cs, v1 = .agg cs ∧ cs.size = Try.prog.cellsOf 30 ∧ _ := by have hq := hval 1 30 v1 rfl rfl; simp only [Value.okWide, Try.underlying30] at hq; exact hq
  obtain ⟨y1, hcs1, hin1⟩ : ∃ y, (dEl fS iS y).rd (fun b => b < W.heap.size) W cs1.toList := by
    obtain ⟨fuel, hf⟩ := h1
    exact (opensStory enc W 0 _ true fuel _ _ hf).2
  obtain rfl : cs1 = (fS y1).toArray := by rw [← hcs1]
  clear hA0 hval0
  refine (ct_laws_FnExactPastSame W y0 y1 (Arg.x (hin0 _ (.head _))) (Arg.x (hin0 _ (.tail _ (.head _)))) (Arg.x (hin1 _ (.head _))) (Arg.x (hin1 _ (.tail _ (.head _))))).2.mono fun e W' ⟨u, he, hu, hG⟩ => ?_
  subst he; subst hu
  have bel : Below W.heap.size W W' := hG.rel
  exact ⟨_, rfl, _, _, _, [], _, [], hW', trodAll_mk1 (shut_bool Try.underlying4 _), (trodAll_cons_mk (Below.trod laidOut (by kernel_rfl) (of_decide_eq_true (by kernel_rfl)) k0 bel lt0) (trodAll_cons_mk (Below.trod laidOut (by kernel_rfl) (of_decide_eq_true (by kernel_rfl)) k1 bel lt1) trodAll_mk0)), rfl, bel.frame _, fun h => by cases h⟩

theorem over : Rows.fnExactPastSameRow.holds Try.pinned (OpenSpec.ofChange Rows.fnExactPastSameSpec) :=
  OpenClaim.holds_of_wide 6 Try.f6 rfl rfl rfl rfl rfl rfl rfl ⟨rfl, rfl, rfl, rfl, rfl⟩ rfl rfl rfl rfl rfl (by kernel_rfl) Try.func6 (by kernel_rfl)
    (of_decide_eq_true (by kernel_rfl)) (by unfold Func.isWrapper; first | (rw [if_pos (by decide +kernel)]; kernel_rfl) | (rw [if_neg (by decide +kernel)]; exact ⟨rfl, rfl⟩))
    (fun os started H enc _ => lifted os started H enc)

/-- The statement. -/
theorem proved : Rows.FnExactPastSameSaid := over
end Go.Proofs.Ythnnhoabdhhkaaa.fnExactPastSame
