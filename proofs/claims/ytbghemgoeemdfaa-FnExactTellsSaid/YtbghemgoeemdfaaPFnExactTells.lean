/- Proved: laws.FnExactTells returns true for every input and leaves its arguments as they were. Conditions: those of the given statement, no others. -/
import Derived.Test.YtbghemgoeemdfaaRows
import Derived.Test.YtbghemgoeemdfaaL2
import Derived.Test.YtbghemgoeemdfaaLB
import Derived.Test.YtbghemgoeemdfaaOp
import Derived.WalkKit
import Derived.ProofKit
import Derived.OpenShut
import Derived.ShutString
import Derived.ChangeOld
import Derived.Below
namespace Go.Proofs.Ytbghemgoeemdfaa.fnExactTells
open Go.ChangeShapes Go.WideShapes Go.ChangeAt Go.RowKit
open Go.ChangeMaps (open_string shut_string)

theorem own : ownKnob Try.prog.godebug = none := by kernel_rfl
theorem laidOut : laidOutB Try.prog = true := by kernel_rfl

set_option maxRecDepth 100000 in
theorem lifted (os : Os) (started : os.Started) (H : Type) (enc : TypeId × Value → H) :
    ReturnsInHanded {} Try.checked os 8 .any (Rows.fnExactTellsSpec.pre6 enc Try.prog Try.f8 Rows.fnExactTellsRow.domain false) (Rows.fnExactTellsSpec.post enc Try.prog Try.f8 false true false false) := by
  refine returnsInHanded_of_change (C := Try.checked) own started (by kernel_rfl) Try.func8
    (ChangeSpec.witness6 (enc := enc) (C := Try.checked) false ⟨#[], #[.agg #[.string ByteArray.empty, .int .i64 0, .slice none 0 0, .slice none 0 0, .slice none 0 0], .int .i64 0, .slice none 0 0], []⟩ 8 (by kernel_rfl) (by kernel_rfl) (by kernel_rfl) (by kernel_rfl)) ?_
  intro W base args ds gs before hval0 hW hcnd _
  have hval : ∀ (j : Nat) t v, Try.f8.params[j]? = some t → args[j]? = some v → Value.okWide Try.prog W .any base t v := hval0
  have hW' := hW
  obtain ⟨p, q, hA0, hV, rfl, hfz, hnd⟩ := hW
  have hA : DataW.TrodAll enc Try.prog W 0 (fun _ => true) true Try.f8.params.toList args.toList ds p := hA0
  rw [Try.params8] at hA hval
  obtain ⟨v0, vs0, d0, ds0, p0, q0, hargs, rfl, rfl, h0, r0⟩ := trodAll_cons hA
  obtain ⟨v1, vs1, d1, ds1, p1, q1, rfl, rfl, rfl, h1, r1⟩ := trodAll_cons r0
  obtain ⟨v2, vs2, d2, ds2, p2, q2, rfl, rfl, rfl, h2, r2⟩ := trodAll_cons r1
  obtain ⟨rfl, rfl, rfl⟩ := trodAll_nil r2
  obtain rfl : args = #[v0, v1, v2] := by cases args; simp_all
  obtain ⟨rfl, rfl⟩ := trodVars_none hV
  have k0 := h0
  have lt0 : ∀ x ∈ p0, x.block < W.heap.size := by obtain ⟨m, hm⟩ := k0; exact DataW.trod_lt m _ _ _ hm
  obtain ⟨cs0, rfl, _, _⟩ : ∃ cs, v0 = .agg cs ∧ cs.size = Try.prog.cellsOf 57 ∧ _ := by have hq := hval 0 57 v0 rfl rfl; simp only [Value.okWide, Try.underlying57] at hq; exact hq
  obtain ⟨y0, w0, rd0⟩ : ∃ y : DDoc, wfDDoc y ∧ rdAll (fun b => b < W.heap.size) W (fDDoc y) cs0.toList := by
    obtain ⟨fuel, hf⟩ := h0
    exact ((opens_57) enc W 0 _ true fuel _ _ hf).2
  obtain ⟨u0_0, t0_0, z0_0, x0_0, w0_0⟩ := rd0
  obtain ⟨u0_1, t0_1, z0_1, x0_1, w0_1⟩ := w0_0
  obtain ⟨u0_2, t0_2, z0_2, x0_2, w0_2⟩ := w0_1
  obtain ⟨u0_3, t0_3, z0_3, x0_3, w0_3⟩ := w0_2
  obtain ⟨u0_4, t0_4, z0_4, x0_4, w0_4⟩ := w0_3
  replace w0_4 : t0_4 = [] := w0_4
  replace x0_0 : u0_0 = _ := x0_0
  subst x0_0
  replace x0_1 : u0_1 = _ := x0_1
  subst x0_1
  obtain ⟨s0_2, es0_2⟩ : ∃ s : Sv, u0_2 = s.v := rd_sv x0_2
  subst es0_2
  obtain ⟨s0_3, es0_3⟩ : ∃ s : Sv, u0_3 = s.v := rd_sv x0_3
  subst es0_3
  obtain ⟨s0_4, es0_4⟩ : ∃ s : Sv, u0_4 = s.v := rd_sv x0_4
  subst es0_4
  subst w0_4
  subst z0_4
  subst z0_3
  subst z0_2
  subst z0_1
  obtain rfl : cs0 = #[.string y0.name, .int .i64 y0.from_, s0_2.v, s0_3.v, s0_4.v] := by cases cs0; simp only at z0_0; simp [z0_0]
  have k1 := h1
  have lt1 : ∀ x ∈ p1, x.block < W.heap.size := by obtain ⟨m, hm⟩ := k1; exact DataW.trod_lt m _ _ _ hm
  obtain ⟨n1, rfl, _, _, wf1⟩ := open_int Try.underlying3 (hval 1 3 v1 rfl rfl) h1
  obtain ⟨y1, w1, rd1⟩ : ∃ y : Int, wfI y ∧ rdAll (fun b => b < W.heap.size) W ((fun z => [cI z]) y) [.int .i64 n1] := by
    obtain ⟨fuel, hf⟩ := h1
    exact ((opens_int Try.underlying3) enc W 0 _ true fuel _ _ hf).2
  obtain ⟨_, _, e1, c1, _⟩ := rd1
  obtain rfl := (List.cons.inj e1).1
  have c1' : n1 = y1 := by cases c1; rfl
  subst c1'
  have k2 := h2
  have lt2 : ∀ x ∈ p2, x.block < W.heap.size := by obtain ⟨m, hm⟩ := k2; exact DataW.trod_lt m _ _ _ hm
  obtain ⟨a2, len2, cap2, rfl⟩ := okWide_slice Try.underlying41 (hval 2 41 v2 rfl rfl)
  obtain ⟨y2, w2, rd2⟩ : ∃ y : List DEntry, (wfL wfDEntry) y ∧ rdAll (fun b => b < W.heap.size) W ((fun z => [cSl 3 fDEntry z]) y) [.slice a2 len2 cap2] := by
    obtain ⟨fuel, hf⟩ := h2
    exact ((opens_slice (k := 3) Try.underlying41 (by kernel_rfl) (by decide) (opens_105)) enc W 0 _ true fuel _ _ hf).2
  obtain ⟨_, _, e2, c2, _⟩ := rd2
  obtain rfl := (List.cons.inj e2).1
  clear hA0 hval0
  refine (ct_laws_FnExactTells W (fun _ => False) (fun b => b < W.heap.size) y0 s0_2 s0_3 s0_4 n1 y2 ⟨a2, len2, cap2⟩ (fun _ h => ⟨h, fun h => h⟩) x0_2 x0_3 x0_4 c2 (fun _ h => h.elim) (math_FnExactTells y0 n1 y2 w0 w1 w2)).2.mono fun e W' ⟨u, he, ⟨_, hu, hG⟩⟩ => ?_
  subst he; subst hu
  have bel : Below W.heap.size W W' := hG.rel
  exact ⟨_, rfl, _, _, _, [], _, [], hW', trodAll_mk1 (shut_bool Try.underlying4 _), (trodAll_cons_mk (Below.trod laidOut (by kernel_rfl) (of_decide_eq_true (by kernel_rfl)) k0 bel lt0) (trodAll_cons_mk (Below.trod laidOut (by kernel_rfl) (of_decide_eq_true (by kernel_rfl)) k1 bel lt1) (trodAll_cons_mk (Below.trod laidOut (by kernel_rfl) (of_decide_eq_true (by kernel_rfl)) k2 bel lt2) trodAll_mk0))), rfl, bel.frame _, fun h => by cases h⟩

theorem over : Rows.fnExactTellsRow.holds Try.pinned (OpenSpec.ofChange Rows.fnExactTellsSpec) :=
  OpenClaim.holds_of_wide 8 Try.f8 rfl rfl rfl rfl rfl rfl rfl ⟨rfl, rfl, rfl, rfl, rfl⟩ rfl rfl rfl rfl rfl (by kernel_rfl) Try.func8 (by kernel_rfl)
    (of_decide_eq_true (by kernel_rfl)) (by unfold Func.isWrapper; first | (rw [if_pos (by decide +kernel)]; kernel_rfl) | (rw [if_neg (by decide +kernel)]; exact ⟨rfl, rfl⟩))
    (fun os started H enc _ => lifted os started H enc)

/-- The statement. -/
theorem proved : Rows.FnExactTellsSaid := over
end Go.Proofs.Ytbghemgoeemdfaa.fnExactTells
