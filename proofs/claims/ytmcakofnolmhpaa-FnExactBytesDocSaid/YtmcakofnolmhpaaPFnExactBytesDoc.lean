/- Proved: laws.FnExactBytesDoc returns true for every input and leaves its arguments as they were. Conditions: those of the given statement, no others. -/
import Derived.Test.YtmcakofnolmhpaaRows
import Derived.Test.YtmcakofnolmhpaaD4
import Derived.Test.YtmcakofnolmhpaaLA
import Derived.Test.YtmcakofnolmhpaaOp
import Derived.WalkKit
import Derived.ProofKit
import Derived.OpenShut
import Derived.ShutString
import Derived.ChangeOld
import Derived.Below
namespace Go.Proofs.Ytmcakofnolmhpaa.fnExactBytesDoc
open Go.ChangeShapes Go.WideShapes Go.ChangeAt Go.RowKit
open Go.ChangeMaps (open_string shut_string)

theorem own : ownKnob Try.prog.godebug = none := by kernel_rfl
theorem laidOut : laidOutB Try.prog = true := by kernel_rfl

set_option maxRecDepth 100000 in
theorem lifted (os : Os) (started : os.Started) (H : Type) (enc : TypeId × Value → H) :
    ReturnsInHanded {} Try.checked os 3 .any (Rows.fnExactBytesDocSpec.pre6 enc Try.prog Try.f3 Rows.fnExactBytesDocRow.domain false) (Rows.fnExactBytesDocSpec.post enc Try.prog Try.f3 false true false false) := by
  refine returnsInHanded_of_change (C := Try.checked) own started (by kernel_rfl) Try.func3
    (ChangeSpec.witness6 (enc := enc) (C := Try.checked) false ⟨#[], #[.string ByteArray.empty, .slice none 0 0], []⟩ 8 (by kernel_rfl) (by kernel_rfl) (by kernel_rfl) (by kernel_rfl)) ?_
  intro W base args ds gs before hval0 hW hcnd _
  have hval : ∀ (j : Nat) t v, Try.f3.params[j]? = some t → args[j]? = some v → Value.okWide Try.prog W .any base t v := hval0
  have hW' := hW
  obtain ⟨p, q, hA0, hV, rfl, hfz, hnd⟩ := hW
  have hA : DataW.TrodAll enc Try.prog W 0 (fun _ => true) true Try.f3.params.toList args.toList ds p := hA0
  rw [Try.params3] at hA hval
  obtain ⟨v0, vs0, d0, ds0, p0, q0, hargs, rfl, rfl, h0, r0⟩ := trodAll_cons hA
  obtain ⟨v1, vs1, d1, ds1, p1, q1, rfl, rfl, rfl, h1, r1⟩ := trodAll_cons r0
  obtain ⟨rfl, rfl, rfl⟩ := trodAll_nil r1
  obtain rfl : args = #[v0, v1] := by cases args; simp_all
  obtain ⟨rfl, rfl⟩ := trodVars_none hV
  have k0 := h0
  have lt0 : ∀ x ∈ p0, x.block < W.heap.size := by obtain ⟨m, hm⟩ := k0; exact DataW.trod_lt m _ _ _ hm
  obtain ⟨n0, rfl, _, _, _⟩ := open_string Try.underlying9 (hval 0 9 v0 rfl rfl) h0
  obtain ⟨y0, w0, rd0⟩ : ∃ y : ByteArray, wfT y ∧ rdAll (fun b => b < W.heap.size) W ((fun z => [cT z]) y) [.string n0] := by
    obtain ⟨fuel, hf⟩ := h0
    exact ((opens_str Try.underlying9) enc W 0 _ true fuel _ _ hf).2
  obtain ⟨_, _, e0, c0, _⟩ := rd0
  obtain rfl := (List.cons.inj e0).1
  have c0' : n0 = y0 := by cases c0; rfl
  subst c0'
  have k1 := h1
  have lt1 : ∀ x ∈ p1, x.block < W.heap.size := by obtain ⟨m, hm⟩ := k1; exact DataW.trod_lt m _ _ _ hm
  obtain ⟨a1, len1, cap1, rfl⟩ := okWide_slice Try.underlying22 (hval 1 22 v1 rfl rfl)
  obtain ⟨y1, w1, rd1⟩ : ∃ y : List UInt8, (wfL wfY) y ∧ rdAll (fun b => b < W.heap.size) W ((fun z => [cSl 1 fY z]) y) [.slice a1 len1 cap1] := by
    obtain ⟨fuel, hf⟩ := h1
    exact ((opens_slice (k := 1) Try.underlying22 (by kernel_rfl) (by decide) (opens_u8 Try.underlying5)) enc W 0 _ true fuel _ _ hf).2
  obtain ⟨_, _, e1, c1, _⟩ := rd1
  obtain rfl := (List.cons.inj e1).1
  clear hA0 hval0
  refine (ct_laws_FnExactBytesDoc W (fun _ => False) (fun b => b < W.heap.size) n0 y1 ⟨a1, len1, cap1⟩ (fun _ h => ⟨h, fun h => h⟩) c1 (fun _ h => h.elim) (math_FnExactBytesDoc n0 y1 w0 w1)).2.mono fun e W' ⟨u, he, ⟨_, hu, hG⟩⟩ => ?_
  subst he; subst hu
  have bel : Below W.heap.size W W' := hG.rel
  exact ⟨_, rfl, _, _, _, [], _, [], hW', trodAll_mk1 (shut_bool Try.underlying4 _), (trodAll_cons_mk (Below.trod laidOut (by kernel_rfl) (of_decide_eq_true (by kernel_rfl)) k0 bel lt0) (trodAll_cons_mk (Below.trod laidOut (by kernel_rfl) (of_decide_eq_true (by kernel_rfl)) k1 bel lt1) trodAll_mk0)), rfl, bel.frame _, fun h => by cases h⟩

theorem over : Rows.fnExactBytesDocRow.holds Try.pinned (OpenSpec.ofChange Rows.fnExactBytesDocSpec) :=
  OpenClaim.holds_of_wide 3 Try.f3 rfl rfl rfl rfl rfl rfl rfl ⟨rfl, rfl, rfl, rfl, rfl⟩ rfl rfl rfl rfl rfl (by kernel_rfl) Try.func3 (by kernel_rfl)
    (of_decide_eq_true (by kernel_rfl)) (by unfold Func.isWrapper; first | (rw [if_pos (by decide +kernel)]; kernel_rfl) | (rw [if_neg (by decide +kernel)]; exact ⟨rfl, rfl⟩))
    (fun os started H enc _ => lifted os started H enc)

/-- The statement. -/
theorem proved : Rows.FnExactBytesDocSaid := over
end Go.Proofs.Ytmcakofnolmhpaa.fnExactBytesDoc
