/- Proved: laws.FnPack returns true for every input and leaves its arguments as they were. Conditions: those of the given statement, no others. -/
import Derived.Test.YtlgmikaemfbmaaaGreatRows
import Derived.Test.YtlgmikaemfbmaaaGreatLP
import Derived.Test.YtlgmikaemfbmaaaGreatEd
import Derived.Test.YtlgmikaemfbmaaaGreatOp
import Derived.WalkKit
import Derived.ProofKit
import Derived.OpenShut
import Derived.ShutString
import Derived.ChangeOld
import Derived.Below
namespace Go.Proofs.YtlgmikaemfbmaaaGreat.fnPack
open Go.ChangeShapes Go.WideShapes Go.ChangeAt Go.RowKit
open Go.ChangeMaps (open_string shut_string)

theorem own : ownKnob Tryz.prog.godebug = none := by kernel_rfl
theorem laidOut : laidOutB Tryz.prog = true := by kernel_rfl

set_option maxRecDepth 100000 in
theorem lifted (os : Os) (started : os.Started) (H : Type) (enc : TypeId × Value → H) :
    ReturnsInHanded {} Tryz.checked os 4 .any (Rows.fnPackSpec.pre6 enc Tryz.prog Tryz.f4 Rows.fnPackRow.domain false) (Rows.fnPackSpec.post enc Tryz.prog Tryz.f4 false true false false) := by
  refine returnsInHanded_of_change (C := Tryz.checked) own started (by kernel_rfl) Tryz.func4
    (ChangeSpec.witness6 (enc := enc) (C := Tryz.checked) false ⟨#[], #[.slice none 0 0], []⟩ 8 (by kernel_rfl) (by kernel_rfl) (by kernel_rfl) (by kernel_rfl)) ?_
  intro W base args ds gs before hval0 hW hcnd _
  have hval : ∀ (j : Nat) t v, Tryz.f4.params[j]? = some t → args[j]? = some v → Value.okWide Tryz.prog W .any base t v := hval0
  have hW' := hW
  obtain ⟨p, q, hA0, hV, rfl, hfz, hnd⟩ := hW
  have hA : DataW.TrodAll enc Tryz.prog W 0 (fun _ => true) true Tryz.f4.params.toList args.toList ds p := hA0
  rw [Tryz.params4] at hA hval
  obtain ⟨v0, vs0, d0, ds0, p0, q0, hargs, rfl, rfl, h0, r0⟩ := trodAll_cons hA
  obtain ⟨rfl, rfl, rfl⟩ := trodAll_nil r0
  obtain rfl : args = #[v0] := by cases args; simp_all
  obtain ⟨rfl, rfl⟩ := trodVars_none hV
  have k0 := h0
  have lt0 : ∀ x ∈ p0, x.block < W.heap.size := by obtain ⟨m, hm⟩ := k0; exact DataW.trod_lt m _ _ _ hm
  obtain ⟨a0, len0, cap0, rfl⟩ := okWide_slice Tryz.underlying22 (hval 0 22 v0 rfl rfl)
  obtain ⟨y0, w0, rd0⟩ : ∃ y : List UInt8, (wfL wfY) y ∧ rdAll (fun b => b < W.heap.size) W ((fun z => [cSl 1 fY z]) y) [.slice a0 len0 cap0] := by
    obtain ⟨fuel, hf⟩ := h0
    exact ((opens_slice (k := 1) Tryz.underlying22 (by kernel_rfl) (by decide) (opens_u8 Tryz.underlying5)) enc W 0 _ true fuel _ _ hf).2
  obtain ⟨_, _, e0, c0, _⟩ := rd0
  obtain rfl := (List.cons.inj e0).1
  clear hA0 hval0
  refine (ct_laws_FnPack W (fun _ => False) (fun b => b < W.heap.size) y0 ⟨a0, len0, cap0⟩ (fun _ h => ⟨h, fun h => h⟩) c0 (fun _ h => h.elim) (math_FnPack y0 w0)).2.mono fun e W' ⟨u, he, ⟨_, hu, hG⟩⟩ => ?_
  subst he; subst hu
  have bel : Below W.heap.size W W' := hG.rel
  exact ⟨_, rfl, _, _, _, [], _, [], hW', trodAll_mk1 (shut_bool Tryz.underlying4 _), (trodAll_cons_mk (Below.trod laidOut (by kernel_rfl) (of_decide_eq_true (by kernel_rfl)) k0 bel lt0) trodAll_mk0), rfl, bel.frame _, fun h => by cases h⟩

theorem over : Rows.fnPackRow.holds Tryz.pinned (OpenSpec.ofChange Rows.fnPackSpec) :=
  OpenClaim.holds_of_wide 4 Tryz.f4 rfl rfl rfl rfl rfl rfl rfl ⟨rfl, rfl, rfl, rfl, rfl⟩ rfl rfl rfl rfl rfl (by kernel_rfl) Tryz.func4 (by kernel_rfl)
    (of_decide_eq_true (by kernel_rfl)) (by unfold Func.isWrapper; first | (rw [if_pos (by decide +kernel)]; kernel_rfl) | (rw [if_neg (by decide +kernel)]; exact ⟨rfl, rfl⟩))
    (fun os started H enc _ => lifted os started H enc)

/-- The statement. -/
theorem proved : Rows.FnPackSaid := over
end Go.Proofs.YtlgmikaemfbmaaaGreat.fnPack
