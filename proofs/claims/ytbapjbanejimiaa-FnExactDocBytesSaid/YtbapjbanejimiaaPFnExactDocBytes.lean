/- Proved: laws.FnExactDocBytes returns true for every input and leaves its arguments as they were. Conditions: those of the given statement, no others. -/
import Derived.Test.YtbapjbanejimiaaRows
import Derived.Test.YtbapjbanejimiaaDX
import Derived.Test.YtbapjbanejimiaaLA
import Derived.Test.YtbapjbanejimiaaOp
import Derived.WalkKit
import Derived.ProofKit
import Derived.OpenShut
import Derived.ShutString
import Derived.ChangeOld
import Derived.Below
namespace Go.Proofs.Ytbapjbanejimiaa.fnExactDocBytes
open Go.ChangeShapes Go.WideShapes Go.ChangeAt Go.RowKit
open Go.ChangeMaps (open_string shut_string)

theorem own : ownKnob Try.prog.godebug = none := by kernel_rfl
theorem laidOut : laidOutB Try.prog = true := by kernel_rfl

set_option maxRecDepth 100000 in
theorem lifted (os : Os) (started : os.Started) (H : Type) (enc : TypeId × Value → H) :
    ReturnsInHanded {} Try.checked os 4 .any (Rows.fnExactDocBytesSpec.pre6 enc Try.prog Try.f4 Rows.fnExactDocBytesRow.domain false) (Rows.fnExactDocBytesSpec.post enc Try.prog Try.f4 false true false false) := by
  refine returnsInHanded_of_change (C := Try.checked) own started (by kernel_rfl) Try.func4
    (ChangeSpec.witness6 (enc := enc) (C := Try.checked) false ⟨#[], #[.agg #[.string ByteArray.empty, .int .i64 0, .slice none 0 0, .slice none 0 0, .slice none 0 0]], []⟩ 8 (by kernel_rfl) (by kernel_rfl) (by kernel_rfl) (by kernel_rfl)) ?_
  intro W base args ds gs before hval0 hW hcnd _
  have hval : ∀ (j : Nat) t v, Try.f4.params[j]? = some t → args[j]? = some v → Value.okWide Try.prog W .any base t v := hval0
  have hW' := hW
  obtain ⟨p, q, hA0, hV, rfl, hfz, hnd⟩ := hW
  have hA : DataW.TrodAll enc Try.prog W 0 (fun _ => true) true Try.f4.params.toList args.toList ds p := hA0
  rw [Try.params4] at hA hval
  obtain ⟨v0, vs0, d0, ds0, p0, q0, hargs, rfl, rfl, h0, r0⟩ := trodAll_cons hA
  obtain ⟨rfl, rfl, rfl⟩ := trodAll_nil r0
  obtain rfl : args = #[v0] := by cases args; simp_all
  obtain ⟨rfl, rfl⟩ := trodVars_none hV
  have k0 := h0
  have lt0 : ∀ x ∈ p0, x.block < W.heap.size := by obtain ⟨m, hm⟩ := k0; exact DataW.trod_lt m _ _ _ hm
  obtain ⟨cs0, rfl, _, _⟩ : ∃ cs, v0 = .agg cs ∧ cs.size = Try.prog.cellsOf 46 ∧ _ := by have hq := hval 0 46 v0 rfl rfl; simp only [Value.okWide, Try.underlying46] at hq; exact hq
  obtain ⟨y0, w0, rd0⟩ : ∃ y : DDoc, wfDDoc y ∧ rdAll (fun b => b < W.heap.size) W (fDDoc y) cs0.toList := by
    obtain ⟨fuel, hf⟩ := h0
    exact ((opens_46) enc W 0 _ true fuel _ _ hf).2
  obtain ⟨u0_0, t0_0, z0_0, x0_0, w0_0⟩ := rd0
  obtain ⟨u0_1, t0_1, z0_1, x0_1, w0_1⟩ := w0_0
  obtain ⟨u0_2, t0_2, z0_2, x0_2, w0_2⟩ := w0_1
  obtain ⟨u0_3, t0_3, z0_3, x0_3, w0_3⟩ := w0_2
  obtain ⟨u0_4, t0_4, z0_4, x0_4, w0_4⟩ := w0_3
  replace w0_4 : t0_4 = [] := w0_4
  replace x0_0 : u0_0 = _ := x0_0
  subst x0_0
  replace x0_1 : u0_1 = _ := x0_1
  subst x0_1
  obtain ⟨s0_2, es0_2⟩ : ∃ s : Sv, u0_2 = s.v := rd_sv x0_2
  subst es0_2
  obtain ⟨s0_3, es0_3⟩ : ∃ s : Sv, u0_3 = s.v := rd_sv x0_3
  subst es0_3
  obtain ⟨s0_4, es0_4⟩ : ∃ s : Sv, u0_4 = s.v := rd_sv x0_4
  subst es0_4
  subst w0_4
  subst z0_4
  subst z0_3
  subst z0_2
  subst z0_1
  obtain rfl : cs0 = #[.string y0.name, .int .i64 y0.from_, s0_2.v, s0_3.v, s0_4.v] := by cases cs0; simp only at z0_0; simp [z0_0]
  clear hA0 hval0
  refine (ct_laws_FnExactDocBytes W (fun _ => False) (fun b => b < W.heap.size) y0 s0_2 s0_3 s0_4 (fun _ h => ⟨h, fun h => h⟩) x0_2 x0_3 x0_4 (fun _ h => h.elim) (math_FnExactDocBytes y0 w0)).2.mono fun e W' ⟨u, he, ⟨_, hu, hG⟩⟩ => ?_
  subst he; subst hu
  have bel : Below W.heap.size W W' := hG.rel
  exact ⟨_, rfl, _, _, _, [], _, [], hW', trodAll_mk1 (shut_bool Try.underlying4 _), (trodAll_cons_mk (Below.trod laidOut (by kernel_rfl) (of_decide_eq_true (by kernel_rfl)) k0 bel lt0) trodAll_mk0), rfl, bel.frame _, fun h => by cases h⟩

theorem over : Rows.fnExactDocBytesRow.holds Try.pinned (OpenSpec.ofChange Rows.fnExactDocBytesSpec) :=
  OpenClaim.holds_of_wide 4 Try.f4 rfl rfl rfl rfl rfl rfl rfl ⟨rfl, rfl, rfl, rfl, rfl⟩ rfl rfl rfl rfl rfl (by kernel_rfl) Try.func4 (by kernel_rfl)
    (of_decide_eq_true (by kernel_rfl)) (by unfold Func.isWrapper; first | (rw [if_pos (by decide +kernel)]; kernel_rfl) | (rw [if_neg (by decide +kernel)]; exact ⟨rfl, rfl⟩))
    (fun os started H enc _ => lifted os started H enc)

/-- The statement. -/
theorem proved : Rows.FnExactDocBytesSaid := over
end Go.Proofs.Ytbapjbanejimiaa.fnExactDocBytes
