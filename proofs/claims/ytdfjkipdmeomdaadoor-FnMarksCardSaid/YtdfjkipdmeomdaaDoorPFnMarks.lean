/- Proved: laws.FnMarks returns true for every input and leaves its arguments as they were. Conditions: those of the given statement, no others. -/
import Derived.Test.YtdfjkipdmeomdaaDoorCards
import Derived.Test.YtdfjkipdmeomdaaDoorTie
import Derived.Test.YtdfjkipdmeomdaaDoorNx
import Derived.Test.YtdfjkipdmeomdaaDoorTL
import Derived.Test.YtdfjkipdmeomdaaDoorFk
import Derived.Test.YtdfjkipdmeomdaaDoorOp
import Derived.WalkKit
import Derived.ProofKit
import Derived.OpenShut
import Derived.ShutString
import Derived.ChangeOld
import Derived.Below
import Derived.LaidMore
import Derived.LaidHandle
import Derived.Stop.LaidErr
import Derived.Stop.Joined
import Derived.SevenTiedAt
namespace Go.Proofs.YtdfjkipdmeomdaaDoor.fnMarks
open Go.ChangeShapes Go.WideShapes Go.ChangeAt Go.RowKit
open Go.ChangeMaps (open_string shut_string)

theorem own : ownKnob Tryd.prog.godebug = none := by kernel_rfl
theorem laidOut : laidOutB Tryd.prog = true := by kernel_rfl

set_option maxRecDepth 100000 in
theorem door_met (os : Os) (args : Array Value) : laidMetH Tryd.prog Rows.fnMarksRow.laid ((World.doorLaid Tryd.prog 24 os).forCall (fun _ _ => 0) ⟨#[], args, []⟩).memory :=
  laidMetH_of_parts3 (fuel := 8) (laidMet_of_run' 8 (by kernel_rfl) (by kernel_rfl)) (by kernel_rfl) (by kernel_rfl)
theorem tab_of {W : World} (h : laidMetH Tryd.prog Rows.fnMarksRow.laid W) : rTab.ok (fun b => b < W.heap.size) W := by
  rw [MakeChecks.laidMetH_plain _ _ _ (by kernel_rfl)] at h
  have h2 : Lib.TabIs Tryd.prog W "internal/strconv.uint64pow10" .u64 Lib.pow10Tab := Lib.tabIs_of_head (t := 83) (e := 75) (n := 20) tabG (by kernel_rfl) (by kernel_rfl) (by kernel_rfl) (by kernel_rfl) (by kernel_rfl) h.tail.tail
  refine ⟨?_, h2⟩
  unfold Lib.TabIs World.var? at h2
  rw [tabG] at h2
  simp only [Option.bind_some] at h2
  rcases Nat.lt_or_ge 0 W.heap.size with hl | hl
  · exact hl
  · rw [Array.getElem?_eq_none hl] at h2
    cases h2
set_option maxRecDepth 100000 in
theorem lifted (os : Os) (started : os.Started) (H : Type) (enc : TypeId × Value → H) :
    ReturnsInHanded {} Tryd.checked os 4 .any (fun w args => (Rows.fnMarksSpec.pre enc Tryd.prog Tryd.f4 Rows.fnMarksRow.domain false w args ∧ laidMetH Tryd.prog Rows.fnMarksRow.laid w) ∧ sizedMet enc Tryd.prog Tryd.f4 (OpenSpec.ofChange Rows.fnMarksSpec) false w args) (Rows.fnMarksSpec.post enc Tryd.prog Tryd.f4 false true false false) := by
  refine returnsInHanded_of_change_and (C := Tryd.checked) (X := fun w _ => laidMetH Tryd.prog Rows.fnMarksRow.laid w) (fun _ _ _ hh h => h.of_heap hh) own started (by kernel_rfl) Tryd.func4
    (ChangeSpec.witness_shaped (enc := enc) (C := Tryd.checked) (os := os) (X := fun w _ => laidMetH Tryd.prog Rows.fnMarksRow.laid w) false (World.doorLaid Tryd.prog 24 os) #[.slice none 0 0] 8 rfl (World.shaped_of_RefB (by kernel_rfl) (by kernel_rfl)) (by kernel_rfl) (by kernel_rfl) (by kernel_rfl) (door_met os _)) ?_
  intro W base args ds gs before hval0 hW hcnd _ hL _
  have hT := tab_of hL
  have hval : ∀ (j : Nat) t v, Tryd.f4.params[j]? = some t → args[j]? = some v → Value.okWide Tryd.prog W .any base t v := hval0
  have hW' := hW
  obtain ⟨p, q, hA0, hV, rfl, hfz, hnd⟩ := hW
  have hA : DataW.TrodAll enc Tryd.prog W 0 (fun _ => true) true Tryd.f4.params.toList args.toList ds p := hA0
  rw [Tryd.params4] at hA hval
  obtain ⟨v0, vs0, d0, ds0, p0, q0, hargs, rfl, rfl, h0, r0⟩ := trodAll_cons hA
  obtain ⟨rfl, rfl, rfl⟩ := trodAll_nil r0
  obtain rfl : args = #[v0] := by cases args; simp_all
  obtain ⟨rfl, rfl⟩ := trodVars_none hV
  have k0 := h0
  have lt0 : ∀ x ∈ p0, x.block < W.heap.size := by obtain ⟨m, hm⟩ := k0; exact DataW.trod_lt m _ _ _ hm
  obtain ⟨a0, len0, cap0, rfl⟩ := okWide_slice Tryd.underlying28 (hval 0 28 v0 rfl rfl)
  obtain ⟨y0, w0, rd0⟩ : ∃ y : List UInt8, (wfL wfY) y ∧ rdAll (fun b => b < W.heap.size) W ((fun z => [cSl 1 fY z]) y) [.slice a0 len0 cap0] := by
    obtain ⟨fuel, hf⟩ := h0
    exact ((opens_slice (k := 1) Tryd.underlying28 (by kernel_rfl) (by decide) (opens_u8 Tryd.underlying5)) enc W 0 _ true fuel _ _ hf).2
  obtain ⟨_, _, e0, c0, _⟩ := rd0
  obtain rfl := (List.cons.inj e0).1
  clear hA0 hval0
  refine (ct_laws_FnMarks W (fun _ => False) (fun b => b < W.heap.size) y0 ⟨a0, len0, cap0⟩ (fun _ h => ⟨h, fun h => h⟩) hT c0 (fun _ h => h.elim) (math_FnMarks y0 w0)).2.mono fun e W' ⟨u, he, ⟨_, hu, hG⟩⟩ => ?_
  subst he; subst hu
  have bel : Below W.heap.size W W' := hG.rel
  exact ⟨_, rfl, _, _, _, [], _, [], hW', trodAll_mk1 (shut_bool Tryd.underlying4 _), (trodAll_cons_mk (Below.trod laidOut (by kernel_rfl) (of_decide_eq_true (by kernel_rfl)) k0 bel lt0) trodAll_mk0), rfl, bel.frame _, fun h => by cases h⟩

theorem over : Rows.fnMarksRow.holds Tryd.pinned (OpenSpec.ofChange Rows.fnMarksSpec) :=
  OpenClaim.holds_of_wide 4 Tryd.f4 rfl rfl rfl rfl rfl rfl rfl ⟨rfl, rfl, rfl, rfl, rfl⟩ rfl rfl rfl rfl rfl (by kernel_rfl) Tryd.func4 (by kernel_rfl)
    (of_decide_eq_true (by kernel_rfl)) (by unfold Func.isWrapper; first | (rw [if_pos (by decide +kernel)]; kernel_rfl) | (rw [if_neg (by decide +kernel)]; exact ⟨rfl, rfl⟩))
    (fun os started H enc _ => lifted os started H enc)

/-- The statement. -/
theorem proved : Rows.FnMarksCardSaid :=
  Claim7.holds_tied_plain_at .later [] [.data, .data, .data] true (true, "d77ba8f7296279aac102234e514d2ce260835c242cbb474c6608900e58c27381") false
    over (fun _ h => by cases h) (by kernel_rfl) (fun _ h => by cases h) fnMarks_row_tie rfl ⟨rfl, rfl⟩ (by kernel_rfl) rfl
    (fun f fn hf hfn => by
      obtain rfl : f = 4 := Option.some.inj ((show Tryd.prog.funcNamed "loop.example/g00797/laws.FnMarks" = some 4 by kernel_rfl).symm.trans hf) |>.symm
      obtain rfl : fn = Tryd.f4 := (Option.some.inj (Tryd.func4.symm.trans hfn)).symm
      exact ⟨by kernel_rfl, fun j t ht => by
        rw [Tryd.params4] at ht
        have hm : t ∈ [28] := by simpa using Array.mem_of_getElem? ht
        have hall : ([28].all fun u => !Tryd.prog.wantsStandIn u) = true := by kernel_rfl
        exact (show Tryd.prog.wantsStandIn t = false by simpa using List.all_eq_true.1 hall t hm)⟩)
    (by kernel_rfl)
end Go.Proofs.YtdfjkipdmeomdaaDoor.fnMarks
