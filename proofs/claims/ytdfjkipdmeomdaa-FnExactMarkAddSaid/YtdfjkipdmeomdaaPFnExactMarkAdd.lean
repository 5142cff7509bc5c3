/- Proved: laws.FnExactMarkAdd returns true for every input and leaves its arguments as they were. Conditions: those of the given statement, no others. -/
import Derived.Test.YtdfjkipdmeomdaaRows
import Derived.Test.YtdfjkipdmeomdaaTL
import Derived.Test.YtdfjkipdmeomdaaLB
import Derived.Test.YtdfjkipdmeomdaaOp
import Derived.WalkKit
import Derived.ProofKit
import Derived.OpenShut
import Derived.ShutString
import Derived.ChangeOld
import Derived.Below
namespace Go.Proofs.Ytdfjkipdmeomdaa.fnExactMarkAdd
open Go.ChangeShapes Go.WideShapes Go.ChangeAt Go.RowKit
open Go.ChangeMaps (open_string shut_string)

theorem own : ownKnob Try.prog.godebug = none := by kernel_rfl
theorem laidOut : laidOutB Try.prog = true := by kernel_rfl

set_option maxRecDepth 100000 in
theorem lifted (os : Os) (started : os.Started) (H : Type) (enc : TypeId × Value → H) :
    ReturnsInHanded {} Try.checked os 6 .any (Rows.fnExactMarkAddSpec.pre6 enc Try.prog Try.f6 Rows.fnExactMarkAddRow.domain false) (Rows.fnExactMarkAddSpec.post enc Try.prog Try.f6 false true false false) := by
  refine returnsInHanded_of_change (C := Try.checked) own started (by kernel_rfl) Try.func6
    (ChangeSpec.witness6 (enc := enc) (C := Try.checked) false ⟨#[], #[.slice none 0 0, .int .i64 0, .int .i64 0, .int .i64 0, .int .i64 0], []⟩ 8 (by kernel_rfl) (by kernel_rfl) (by kernel_rfl) (by kernel_rfl)) ?_
  intro W base args ds gs before hval0 hW hcnd _
  have hval : ∀ (j : Nat) t v, Try.f6.params[j]? = some t → args[j]? = some v → Value.okWide Try.prog W .any base t v := hval0
  have hW' := hW
  obtain ⟨p, q, hA0, hV, rfl, hfz, hnd⟩ := hW
  have hA : DataW.TrodAll enc Try.prog W 0 (fun _ => true) true Try.f6.params.toList args.toList ds p := hA0
  rw [Try.params6] at hA hval
  obtain ⟨v0, vs0, d0, ds0, p0, q0, hargs, rfl, rfl, h0, r0⟩ := trodAll_cons hA
  obtain ⟨v1, vs1, d1, ds1, p1, q1, rfl, rfl, rfl, h1, r1⟩ := trodAll_cons r0
  obtain ⟨v2, vs2, d2, ds2, p2, q2, rfl, rfl, rfl, h2, r2⟩ := trodAll_cons r1
  obtain ⟨v3, vs3, d3, ds3, p3, q3, rfl, rfl, rfl, h3, r3⟩ := trodAll_cons r2
  obtain ⟨v4, vs4, d4, ds4, p4, q4, rfl, rfl, rfl, h4, r4⟩ := trodAll_cons r3
  obtain ⟨rfl, rfl, rfl⟩ := trodAll_nil r4
  obtain rfl : args = #[v0, v1, v2, v3, v4] := by cases args; simp_all
  obtain ⟨rfl, rfl⟩ := trodVars_none hV
  have k0 := h0
  have lt0 : ∀ x ∈ p0, x.block < W.heap.size := by obtain ⟨m, hm⟩ := k0; exact DataW.trod_lt m _ _ _ hm
  obtain ⟨a0, len0, cap0, rfl⟩ := okWide_slice Try.underlying51 (hval 0 51 v0 rfl rfl)
  obtain ⟨y0, w0, rd0⟩ : ∃ y : List DMark, (wfL wfDMark) y ∧ rdAll (fun b => b < W.heap.size) W ((fun z => [cSl 3 fDMark z]) y) [.slice a0 len0 cap0] := by
    obtain ⟨fuel, hf⟩ := h0
    exact ((opens_slice (k := 3) Try.underlying51 (by kernel_rfl) (by decide) (opens_93)) enc W 0 _ true fuel _ _ hf).2
  obtain ⟨_, _, e0, c0, _⟩ := rd0
  obtain rfl := (List.cons.inj e0).1
  have k1 := h1
  have lt1 : ∀ x ∈ p1, x.block < W.heap.size := by obtain ⟨m, hm⟩ := k1; exact DataW.trod_lt m _ _ _ hm
  obtain ⟨n1, rfl, _, _, wf1⟩ := open_int Try.underlying3 (hval 1 3 v1 rfl rfl) h1
  obtain ⟨y1, w1, rd1⟩ : ∃ y : Int, wfI y ∧ rdAll (fun b => b < W.heap.size) W ((fun z => [cI z]) y) [.int .i64 n1] := by
    obtain ⟨fuel, hf⟩ := h1
    exact ((opens_int Try.underlying3) enc W 0 _ true fuel _ _ hf).2
  obtain ⟨_, _, e1, c1, _⟩ := rd1
  obtain rfl := (List.cons.inj e1).1
  have c1' : n1 = y1 := by cases c1; rfl
  subst c1'
  have k2 := h2
  have lt2 : ∀ x ∈ p2, x.block < W.heap.size := by obtain ⟨m, hm⟩ := k2; exact DataW.trod_lt m _ _ _ hm
  obtain ⟨n2, rfl, _, _, wf2⟩ := open_int Try.underlying3 (hval 2 3 v2 rfl rfl) h2
  obtain ⟨y2, w2, rd2⟩ : ∃ y : Int, wfI y ∧ rdAll (fun b => b < W.heap.size) W ((fun z => [cI z]) y) [.int .i64 n2] := by
    obtain ⟨fuel, hf⟩ := h2
    exact ((opens_int Try.underlying3) enc W 0 _ true fuel _ _ hf).2
  obtain ⟨_, _, e2, c2, _⟩ := rd2
  obtain rfl := (List.cons.inj e2).1
  have c2' : n2 = y2 := by cases c2; rfl
  subst c2'
  have k3 := h3
  have lt3 : ∀ x ∈ p3, x.block < W.heap.size := by obtain ⟨m, hm⟩ := k3; exact DataW.trod_lt m _ _ _ hm
  obtain ⟨n3, rfl, _, _, wf3⟩ := open_int Try.underlying3 (hval 3 3 v3 rfl rfl) h3
  obtain ⟨y3, w3, rd3⟩ : ∃ y : Int, wfI y ∧ rdAll (fun b => b < W.heap.size) W ((fun z => [cI z]) y) [.int .i64 n3] := by
    obtain ⟨fuel, hf⟩ := h3
    exact ((opens_int Try.underlying3) enc W 0 _ true fuel _ _ hf).2
  obtain ⟨_, _, e3, c3, _⟩ := rd3
  obtain rfl := (List.cons.inj e3).1
  have c3' : n3 = y3 := by cases c3; rfl
  subst c3'
  have k4 := h4
  have lt4 : ∀ x ∈ p4, x.block < W.heap.size := by obtain ⟨m, hm⟩ := k4; exact DataW.trod_lt m _ _ _ hm
  obtain ⟨n4, rfl, _, _, wf4⟩ := open_int Try.underlying3 (hval 4 3 v4 rfl rfl) h4
  obtain ⟨y4, w4, rd4⟩ : ∃ y : Int, wfI y ∧ rdAll (fun b => b < W.heap.size) W ((fun z => [cI z]) y) [.int .i64 n4] := by
    obtain ⟨fuel, hf⟩ := h4
    exact ((opens_int Try.underlying3) enc W 0 _ true fuel _ _ hf).2
  obtain ⟨_, _, e4, c4, _⟩ := rd4
  obtain rfl := (List.cons.inj e4).1
  have c4' : n4 = y4 := by cases c4; rfl
  subst c4'
  clear hA0 hval0
  refine (ct_laws_FnExactMarkAdd W (fun _ => False) (fun b => b < W.heap.size) y0 ⟨a0, len0, cap0⟩ n1 n2 n3 n4 (fun _ h => ⟨h, fun h => h⟩) c0 (fun _ h => h.elim) (math_FnExactMarkAdd y0 n1 n2 n3 n4 w0 w1 w2 w3 w4)).2.mono fun e W' ⟨u, he, ⟨_, hu, hG⟩⟩ => ?_
  subst he; subst hu
  have bel : Below W.heap.size W W' := hG.rel
  exact ⟨_, rfl, _, _, _, [], _, [], hW', trodAll_mk1 (shut_bool Try.underlying4 _), (trodAll_cons_mk (Below.trod laidOut (by kernel_rfl) (of_decide_eq_true (by kernel_rfl)) k0 bel lt0) (trodAll_cons_mk (Below.trod laidOut (by kernel_rfl) (of_decide_eq_true (by kernel_rfl)) k1 bel lt1) (trodAll_cons_mk (Below.trod laidOut (by kernel_rfl) (of_decide_eq_true (by kernel_rfl)) k2 bel lt2) (trodAll_cons_mk (Below.trod laidOut (by kernel_rfl) (of_decide_eq_true (by kernel_rfl)) k3 bel lt3) (trodAll_cons_mk (Below.trod laidOut (by kernel_rfl) (of_decide_eq_true (by kernel_rfl)) k4 bel lt4) trodAll_mk0))))), rfl, bel.frame _, fun h => by cases h⟩

theorem over : Rows.fnExactMarkAddRow.holds Try.pinned (OpenSpec.ofChange Rows.fnExactMarkAddSpec) :=
  OpenClaim.holds_of_wide 6 Try.f6 rfl rfl rfl rfl rfl rfl rfl ⟨rfl, rfl, rfl, rfl, rfl⟩ rfl rfl rfl rfl rfl (by kernel_rfl) Try.func6 (by kernel_rfl)
    (of_decide_eq_true (by kernel_rfl)) (by unfold Func.isWrapper; first | (rw [if_pos (by decide +kernel)]; kernel_rfl) | (rw [if_neg (by decide +kernel)]; exact ⟨rfl, rfl⟩))
    (fun os started H enc _ => lifted os started H enc)

/-- The statement. -/
theorem proved : Rows.FnExactMarkAddSaid := over
end Go.Proofs.Ytdfjkipdmeomdaa.fnExactMarkAdd
