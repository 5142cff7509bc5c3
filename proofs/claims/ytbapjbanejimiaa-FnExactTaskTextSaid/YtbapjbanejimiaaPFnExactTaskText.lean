/- Proved: laws.FnExactTaskText returns true for every input and leaves its arguments as they were. Conditions: those of the given statement, no others. -/
import Derived.Test.YtbapjbanejimiaaRows
import Derived.Test.YtbapjbanejimiaaTX
import Derived.Test.YtbapjbanejimiaaLB
import Derived.Test.YtbapjbanejimiaaOp
import Derived.WalkKit
import Derived.ProofKit
import Derived.OpenShut
import Derived.ShutString
import Derived.ChangeOld
import Derived.Below
namespace Go.Proofs.Ytbapjbanejimiaa.fnExactTaskText
open Go.ChangeShapes Go.WideShapes Go.ChangeAt Go.RowKit
open Go.ChangeMaps (open_string shut_string)

theorem own : ownKnob Try.prog.godebug = none := by kernel_rfl
theorem laidOut : laidOutB Try.prog = true := by kernel_rfl

set_option maxRecDepth 100000 in
theorem lifted (os : Os) (started : os.Started) (H : Type) (enc : TypeId × Value → H) :
    ReturnsInHanded {} Try.checked os 3 .any (Rows.fnExactTaskTextSpec.pre6 enc Try.prog Try.f3 Rows.fnExactTaskTextRow.domain false) (Rows.fnExactTaskTextSpec.post enc Try.prog Try.f3 false true false false) := by
  refine returnsInHanded_of_change (C := Try.checked) own started (by kernel_rfl) Try.func3
    (ChangeSpec.witness6 (enc := enc) (C := Try.checked) false ⟨#[], #[.agg #[.int .i64 0, .string ByteArray.empty, .int .i64 0, .int .i64 0, .int .i64 0, .slice none 0 0, .slice none 0 0, .int .i64 0, .int .i64 0, .int .i64 0, .int .i64 0, .int .i64 0, .int .i64 0, .slice none 0 0, .slice none 0 0]], []⟩ 8 (by kernel_rfl) (by kernel_rfl) (by kernel_rfl) (by kernel_rfl)) ?_
  intro W base args ds gs before hval0 hW hcnd _
  have hval : ∀ (j : Nat) t v, Try.f3.params[j]? = some t → args[j]? = some v → Value.okWide Try.prog W .any base t v := hval0
  have hW' := hW
  obtain ⟨p, q, hA0, hV, rfl, hfz, hnd⟩ := hW
  have hA : DataW.TrodAll enc Try.prog W 0 (fun _ => true) true Try.f3.params.toList args.toList ds p := hA0
  rw [Try.params3] at hA hval
  obtain ⟨v0, vs0, d0, ds0, p0, q0, hargs, rfl, rfl, h0, r0⟩ := trodAll_cons hA
  obtain ⟨rfl, rfl, rfl⟩ := trodAll_nil r0
  obtain rfl : args = #[v0] := by cases args; simp_all
  obtain ⟨rfl, rfl⟩ := trodVars_none hV
  have k0 := h0
  have lt0 : ∀ x ∈ p0, x.block < W.heap.size := by obtain ⟨m, hm⟩ := k0; exact DataW.trod_lt m _ _ _ hm
  obtain ⟨cs0, rfl, _, _⟩ : ∃ cs, v0 = .agg cs ∧ cs.size = Try.prog.cellsOf 30 ∧ _ := by have hq := hval 0 30 v0 rfl rfl; simp only [Value.okWide, Try.underlying30] at hq; exact hq
  obtain ⟨y0, w0, rd0⟩ : ∃ y : DTask, wfDTask y ∧ rdAll (fun b => b < W.heap.size) W (fDTask y) cs0.toList := by
    obtain ⟨fuel, hf⟩ := h0
    exact ((opens_30) enc W 0 _ true fuel _ _ hf).2
  obtain ⟨u0_0, t0_0, z0_0, x0_0, w0_0⟩ := rd0
  obtain ⟨u0_1, t0_1, z0_1, x0_1, w0_1⟩ := w0_0
  obtain ⟨u0_2, t0_2, z0_2, x0_2, w0_2⟩ := w0_1
  obtain ⟨u0_3, t0_3, z0_3, x0_3, w0_3⟩ := w0_2
  obtain ⟨u0_4, t0_4, z0_4, x0_4, w0_4⟩ := w0_3
  obtain ⟨u0_5, t0_5, z0_5, x0_5, w0_5⟩ := w0_4
  obtain ⟨u0_6, t0_6, z0_6, x0_6, w0_6⟩ := w0_5
  obtain ⟨u0_7, t0_7, z0_7, x0_7, w0_7⟩ := w0_6
  obtain ⟨u0_8, t0_8, z0_8, x0_8, w0_8⟩ := w0_7
  obtain ⟨u0_9, t0_9, z0_9, x0_9, w0_9⟩ := w0_8
  obtain ⟨u0_10, t0_10, z0_10, x0_10, w0_10⟩ := w0_9
  obtain ⟨u0_11, t0_11, z0_11, x0_11, w0_11⟩ := w0_10
  obtain ⟨u0_12, t0_12, z0_12, x0_12, w0_12⟩ := w0_11
  obtain ⟨u0_13, t0_13, z0_13, x0_13, w0_13⟩ := w0_12
  obtain ⟨u0_14, t0_14, z0_14, x0_14, w0_14⟩ := w0_13
  replace w0_14 : t0_14 = [] := w0_14
  replace x0_0 : u0_0 = _ := x0_0
  subst x0_0
  replace x0_1 : u0_1 = _ := x0_1
  subst x0_1
  replace x0_2 : u0_2 = _ := x0_2
  subst x0_2
  replace x0_3 : u0_3 = _ := x0_3
  subst x0_3
  replace x0_4 : u0_4 = _ := x0_4
  subst x0_4
  obtain ⟨s0_5, es0_5⟩ : ∃ s : Sv, u0_5 = s.v := rd_sv x0_5
  subst es0_5
  obtain ⟨s0_6, es0_6⟩ : ∃ s : Sv, u0_6 = s.v := rd_sv x0_6
  subst es0_6
  replace x0_7 : u0_7 = _ := x0_7
  subst x0_7
  replace x0_8 : u0_8 = _ := x0_8
  subst x0_8
  replace x0_9 : u0_9 = _ := x0_9
  subst x0_9
  replace x0_10 : u0_10 = _ := x0_10
  subst x0_10
  replace x0_11 : u0_11 = _ := x0_11
  subst x0_11
  replace x0_12 : u0_12 = _ := x0_12
  subst x0_12
  obtain ⟨s0_13, es0_13⟩ : ∃ s : Sv, u0_13 = s.v := rd_sv x0_13
  subst es0_13
  obtain ⟨s0_14, es0_14⟩ : ∃ s : Sv, u0_14 = s.v := rd_sv x0_14
  subst es0_14
  subst w0_14
  subst z0_14
  subst z0_13
  subst z0_12
  subst z0_11
  subst z0_10
  subst z0_9
  subst z0_8
  subst z0_7
  subst z0_6
  subst z0_5
  subst z0_4
  subst z0_3
  subst z0_2
  subst z0_1
  obtain rfl : cs0 = #[.int .i64 y0.c.kind, .string y0.c.doc, .int .i64 y0.c.client, .int .i64 y0.c.seq, .int .i64 y0.c.n, s0_5.v, s0_6.v, .int .i64 y0.pc, .int .i64 y0.inv, .int .i64 y0.lin, .int .i64 y0.res, .int .i64 y0.a.code, .int .i64 y0.a.rev, s0_13.v, s0_14.v] := by cases cs0; simp only at z0_0; simp [z0_0]
  clear hA0 hval0
  refine (ct_laws_FnExactTaskText W (fun _ => False) (fun b => b < W.heap.size) y0 s0_5 s0_6 s0_13 s0_14 (fun _ h => ⟨h, fun h => h⟩) x0_5 x0_6 x0_13 x0_14 (fun _ h => h.elim) (math_FnExactTaskText y0 w0)).2.mono fun e W' ⟨u, he, ⟨_, hu, hG⟩⟩ => ?_
  subst he; subst hu
  have bel : Below W.heap.size W W' := hG.rel
  exact ⟨_, rfl, _, _, _, [], _, [], hW', trodAll_mk1 (shut_bool Try.underlying4 _), (trodAll_cons_mk (Below.trod laidOut (by kernel_rfl) (of_decide_eq_true (by kernel_rfl)) k0 bel lt0) trodAll_mk0), rfl, bel.frame _, fun h => by cases h⟩

theorem over : Rows.fnExactTaskTextRow.holds Try.pinned (OpenSpec.ofChange Rows.fnExactTaskTextSpec) :=
  OpenClaim.holds_of_wide 3 Try.f3 rfl rfl rfl rfl rfl rfl rfl ⟨rfl, rfl, rfl, rfl, rfl⟩ rfl rfl rfl rfl rfl (by kernel_rfl) Try.func3 (by kernel_rfl)
    (of_decide_eq_true (by kernel_rfl)) (by unfold Func.isWrapper; first | (rw [if_pos (by decide +kernel)]; kernel_rfl) | (rw [if_neg (by decide +kernel)]; exact ⟨rfl, rfl⟩))
    (fun os started H enc _ => lifted os started H enc)

/-- The statement. -/
theorem proved : Rows.FnExactTaskTextSaid := over
end Go.Proofs.Ytbapjbanejimiaa.fnExactTaskText
