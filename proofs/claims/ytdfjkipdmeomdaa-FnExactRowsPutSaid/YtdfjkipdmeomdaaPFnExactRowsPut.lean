/- Proved: laws.FnExactRowsPut returns true for every input and leaves its arguments as they were. Conditions: those of the given statement, no others. -/
import Derived.Test.YtdfjkipdmeomdaaRows
import Derived.Test.YtdfjkipdmeomdaaL7
import Derived.Test.YtdfjkipdmeomdaaLA
import Derived.Test.YtdfjkipdmeomdaaOp
import Derived.WalkKit
import Derived.ProofKit
import Derived.OpenShut
import Derived.ShutString
import Derived.ChangeOld
import Derived.Below
namespace Go.Proofs.Ytdfjkipdmeomdaa.fnExactRowsPut
open Go.ChangeShapes Go.WideShapes Go.ChangeAt Go.RowKit
open Go.ChangeMaps (open_string shut_string)

theorem own : ownKnob Try.prog.godebug = none := by kernel_rfl
theorem laidOut : laidOutB Try.prog = true := by kernel_rfl

set_option maxRecDepth 100000 in
theorem lifted (os : Os) (started : os.Started) (H : Type) (enc : TypeId × Value → H) :
    ReturnsInHanded {} Try.checked os 3 .any (Rows.fnExactRowsPutSpec.pre6 enc Try.prog Try.f3 Rows.fnExactRowsPutRow.domain false) (Rows.fnExactRowsPutSpec.post enc Try.prog Try.f3 false true false false) := by
  refine returnsInHanded_of_change (C := Try.checked) own started (by kernel_rfl) Try.func3
    (ChangeSpec.witness6 (enc := enc) (C := Try.checked) false ⟨#[], #[.slice none 0 0, .int .i64 0, .slice none 0 0], []⟩ 8 (by kernel_rfl) (by kernel_rfl) (by kernel_rfl) (by kernel_rfl)) ?_
  intro W base args ds gs before hval0 hW hcnd _
  have hval : ∀ (j : Nat) t v, Try.f3.params[j]? = some t → args[j]? = some v → Value.okWide Try.prog W .any base t v := hval0
  have hW' := hW
  obtain ⟨p, q, hA0, hV, rfl, hfz, hnd⟩ := hW
  have hA : DataW.TrodAll enc Try.prog W 0 (fun _ => true) true Try.f3.params.toList args.toList ds p := hA0
  rw [Try.params3] at hA hval
  obtain ⟨v0, vs0, d0, ds0, p0, q0, hargs, rfl, rfl, h0, r0⟩ := trodAll_cons hA
  obtain ⟨v1, vs1, d1, ds1, p1, q1, rfl, rfl, rfl, h1, r1⟩ := trodAll_cons r0
  obtain ⟨v2, vs2, d2, ds2, p2, q2, rfl, rfl, rfl, h2, r2⟩ := trodAll_cons r1
  obtain ⟨rfl, rfl, rfl⟩ := trodAll_nil r2
  obtain rfl : args = #[v0, v1, v2] := by cases args; simp_all
  obtain ⟨rfl, rfl⟩ := trodVars_none hV
  have k0 := h0
  have lt0 : ∀ x ∈ p0, x.block < W.heap.size := by obtain ⟨m, hm⟩ := k0; exact DataW.trod_lt m _ _ _ hm
  obtain ⟨a0, len0, cap0, rfl⟩ := okWide_slice Try.underlying22 (hval 0 22 v0 rfl rfl)
  obtain ⟨y0, w0, rd0⟩ : ∃ y : List Int, (wfL wfI) y ∧ rdAll (fun b => b < W.heap.size) W ((fun z => [cSl 1 fI z]) y) [.slice a0 len0 cap0] := by
    obtain ⟨fuel, hf⟩ := h0
    exact ((opens_slice (k := 1) Try.underlying22 (by kernel_rfl) (by decide) (opens_int Try.underlying3)) enc W 0 _ true fuel _ _ hf).2
  obtain ⟨_, _, e0, c0, _⟩ := rd0
  obtain rfl := (List.cons.inj e0).1
  have k1 := h1
  have lt1 : ∀ x ∈ p1, x.block < W.heap.size := by obtain ⟨m, hm⟩ := k1; exact DataW.trod_lt m _ _ _ hm
  obtain ⟨n1, rfl, _, _, wf1⟩ := open_int Try.underlying3 (hval 1 3 v1 rfl rfl) h1
  obtain ⟨y1, w1, rd1⟩ : ∃ y : Int, wfI y ∧ rdAll (fun b => b < W.heap.size) W ((fun z => [cI z]) y) [.int .i64 n1] := by
    obtain ⟨fuel, hf⟩ := h1
    exact ((opens_int Try.underlying3) enc W 0 _ true fuel _ _ hf).2
  obtain ⟨_, _, e1, c1, _⟩ := rd1
  obtain rfl := (List.cons.inj e1).1
  have c1' : n1 = y1 := by cases c1; rfl
  subst c1'
  have k2 := h2
  have lt2 : ∀ x ∈ p2, x.block < W.heap.size := by obtain ⟨m, hm⟩ := k2; exact DataW.trod_lt m _ _ _ hm
  obtain ⟨a2, len2, cap2, rfl⟩ := okWide_slice Try.underlying22 (hval 2 22 v2 rfl rfl)
  obtain ⟨y2, w2, rd2⟩ : ∃ y : List Int, (wfL wfI) y ∧ rdAll (fun b => b < W.heap.size) W ((fun z => [cSl 1 fI z]) y) [.slice a2 len2 cap2] := by
    obtain ⟨fuel, hf⟩ := h2
    exact ((opens_slice (k := 1) Try.underlying22 (by kernel_rfl) (by decide) (opens_int Try.underlying3)) enc W 0 _ true fuel _ _ hf).2
  obtain ⟨_, _, e2, c2, _⟩ := rd2
  obtain rfl := (List.cons.inj e2).1
  clear hA0 hval0
  refine (ct_laws_FnExactRowsPut W (fun _ => False) (fun b => b < W.heap.size) y0 ⟨a0, len0, cap0⟩ n1 y2 ⟨a2, len2, cap2⟩ (fun _ h => ⟨h, fun h => h⟩) c0 c2 (fun _ h => h.elim) (math_FnExactRowsPut y0 n1 y2 w0 w1 w2)).2.mono fun e W' ⟨u, he, ⟨_, hu, hG⟩⟩ => ?_
  subst he; subst hu
  have bel : Below W.heap.size W W' := hG.rel
  exact ⟨_, rfl, _, _, _, [], _, [], hW', trodAll_mk1 (shut_bool Try.underlying4 _), (trodAll_cons_mk (Below.trod laidOut (by kernel_rfl) (of_decide_eq_true (by kernel_rfl)) k0 bel lt0) (trodAll_cons_mk (Below.trod laidOut (by kernel_rfl) (of_decide_eq_true (by kernel_rfl)) k1 bel lt1) (trodAll_cons_mk (Below.trod laidOut (by kernel_rfl) (of_decide_eq_true (by kernel_rfl)) k2 bel lt2) trodAll_mk0))), rfl, bel.frame _, fun h => by cases h⟩

theorem over : Rows.fnExactRowsPutRow.holds Try.pinned (OpenSpec.ofChange Rows.fnExactRowsPutSpec) :=
  OpenClaim.holds_of_wide 3 Try.f3 rfl rfl rfl rfl rfl rfl rfl ⟨rfl, rfl, rfl, rfl, rfl⟩ rfl rfl rfl rfl rfl (by kernel_rfl) Try.func3 (by kernel_rfl)
    (of_decide_eq_true (by kernel_rfl)) (by unfold Func.isWrapper; first | (rw [if_pos (by decide +kernel)]; kernel_rfl) | (rw [if_neg (by decide +kernel)]; exact ⟨rfl, rfl⟩))
    (fun os started H enc _ => lifted os started H enc)

/-- The statement. -/
theorem proved : Rows.FnExactRowsPutSaid := over
end Go.Proofs.Ytdfjkipdmeomdaa.fnExactRowsPut
