/- Proved: laws.FnExactPastOk returns true for every input and leaves its arguments as they were. Conditions: those of the given statement, no others. -/
import Derived.Test.YtnpfbhejekpmaaaRows
import Derived.Test.YtnpfbhejekpmaaaL4
import Derived.Test.YtnpfbhejekpmaaaLC
import Derived.Test.YtnpfbhejekpmaaaOp
import Derived.WalkKit
import Derived.ProofKit
import Derived.OpenShut
import Derived.ShutString
import Derived.ChangeOld
import Derived.Below
namespace Go.Proofs.Ytnpfbhejekpmaaa.fnExactPastOk
open Go.ChangeShapes Go.WideShapes Go.ChangeAt Go.RowKit
open Go.ChangeMaps (open_string shut_string)

theorem own : ownKnob Try.prog.godebug = none := by kernel_rfl
theorem laidOut : laidOutB Try.prog = true := by kernel_rfl

set_option maxRecDepth 100000 in
theorem lifted (os : Os) (started : os.Started) (H : Type) (enc : TypeId × Value → H) :
    ReturnsInHanded {} Try.checked os 8 .any (Rows.fnExactPastOkSpec.pre6 enc Try.prog Try.f8 Rows.fnExactPastOkRow.domain false) (Rows.fnExactPastOkSpec.post enc Try.prog Try.f8 false true false false) := by
  refine returnsInHanded_of_change (C := Try.checked) own started (by kernel_rfl) Try.func8
    (ChangeSpec.witness6 (enc := enc) (C := Try.checked) false ⟨#[], #[.agg #[.int .i64 0, .slice none 0 0, .slice none 0 0]], []⟩ 8 (by kernel_rfl) (by kernel_rfl) (by kernel_rfl) (by kernel_rfl)) ?_
  intro W base args ds gs before hval0 hW hcnd _
  have hval : ∀ (j : Nat) t v, Try.f8.params[j]? = some t → args[j]? = some v → Value.okWide Try.prog W .any base t v := hval0
  have hW' := hW
  obtain ⟨p, q, hA0, hV, rfl, hfz, hnd⟩ := hW
  have hA : DataW.TrodAll enc Try.prog W 0 (fun _ => true) true Try.f8.params.toList args.toList ds p := hA0
  rw [Try.params8] at hA hval
  obtain ⟨v0, vs0, d0, ds0, p0, q0, hargs, rfl, rfl, h0, r0⟩ := trodAll_cons hA
  obtain ⟨rfl, rfl, rfl⟩ := trodAll_nil r0
  obtain rfl : args = #[v0] := by cases args; simp_all
  obtain ⟨rfl, rfl⟩ := trodVars_none hV
  have k0 := h0
  have lt0 : ∀ x ∈ p0, x.block < W.heap.size := by obtain ⟨m, hm⟩ := k0; exact DataW.trod_lt m _ _ _ hm
  obtain ⟨cs0, rfl, _, _⟩ : ∃ cs, v0 = .agg cs ∧ cs.size = Try.prog.cellsOf 43 ∧ _ := by have hq := hval 0 43 v0 rfl rfl; simp only [Value.okWide, Try.underlying43] at hq; exact hq
  obtain ⟨y0, w0, rd0⟩ : ∃ y : DStory, wfDStory y ∧ rdAll (fun b => b < W.heap.size) W (fDStory y) cs0.toList := by
    obtain ⟨fuel, hf⟩ := h0
    exact ((opens_43) enc W 0 _ true fuel _ _ hf).2
  obtain ⟨u0_0, t0_0, z0_0, x0_0, w0_0⟩ := rd0
  obtain ⟨u0_1, t0_1, z0_1, x0_1, w0_1⟩ := w0_0
  obtain ⟨u0_2, t0_2, z0_2, x0_2, w0_2⟩ := w0_1
  replace w0_2 : t0_2 = [] := w0_2
  replace x0_0 : u0_0 = _ := x0_0
  subst x0_0
  obtain ⟨s0_1, es0_1⟩ : ∃ s : Sv, u0_1 = s.v := rd_sv x0_1
  subst es0_1
  obtain ⟨s0_2, es0_2⟩ : ∃ s : Sv, u0_2 = s.v := rd_sv x0_2
  subst es0_2
  subst w0_2
  subst z0_2
  subst z0_1
  obtain rfl : cs0 = #[.int .i64 y0.n, s0_1.v, s0_2.v] := by cases cs0; simp only at z0_0; simp [z0_0]
  clear hA0 hval0
  refine (ct_laws_FnExactPastOk W (fun _ => False) (fun b => b < W.heap.size) y0 s0_1 s0_2 (fun _ h => ⟨h, fun h => h⟩) x0_1 x0_2 (fun _ h => h.elim) (math_FnExactPastOk y0 w0)).2.mono fun e W' ⟨u, he, ⟨_, hu, hG⟩⟩ => ?_
  subst he; subst hu
  have bel : Below W.heap.size W W' := hG.rel
  exact ⟨_, rfl, _, _, _, [], _, [], hW', trodAll_mk1 (shut_bool Try.underlying4 _), (trodAll_cons_mk (Below.trod laidOut (by kernel_rfl) (of_decide_eq_true (by kernel_rfl)) k0 bel lt0) trodAll_mk0), rfl, bel.frame _, fun h => by cases h⟩

theorem over : Rows.fnExactPastOkRow.holds Try.pinned (OpenSpec.ofChange Rows.fnExactPastOkSpec) :=
  OpenClaim.holds_of_wide 8 Try.f8 rfl rfl rfl rfl rfl rfl rfl ⟨rfl, rfl, rfl, rfl, rfl⟩ rfl rfl rfl rfl rfl (by kernel_rfl) Try.func8 (by kernel_rfl)
    (of_decide_eq_true (by kernel_rfl)) (by unfold Func.isWrapper; first | (rw [if_pos (by decide +kernel)]; kernel_rfl) | (rw [if_neg (by decide +kernel)]; exact ⟨rfl, rfl⟩))
    (fun os started H enc _ => lifted os started H enc)

/-- The statement. -/
theorem proved : Rows.FnExactPastOkSaid := over
end Go.Proofs.Ytnpfbhejekpmaaa.fnExactPastOk
