/- A new story. No condition. -/
import Derived.Test.YthnnhoabdhhkaaaMn
import Derived.Test.YthnnhoabdhhkaaaL2
namespace Go.Proofs.Ythnnhoabdhhkaaa
theorem stackOk_nil (n : Int) : x_impl_stackOk [] n = some true := by
  unfold x_impl_stackOk
  rw [iter_eq]
  simp [x_impl_stackOk_f0, x_impl_stackOk_b0, xg, inI, Lr.on]
def newS (n : Int) : DStory × Bool := if 0 ≤ n ∧ n ≤ 200 then (⟨n, [], []⟩, true) else (⟨0, [], []⟩, false)
theorem impl_new (n : Int) : x_impl_PastNew n = some (newS n) := by
  unfold x_impl_PastNew x_impl_PastOk newS
  simp only [i_within, stackOk_nil, Option.bind_some]
  by_cases h : 0 ≤ n ∧ n ≤ 200 <;> simp [h]
theorem spec_new (n : Int) : x_spec_PastNew n = some (newS n) := by
  unfold x_spec_PastNew newS
  simp only [s_In, Option.bind_some]
  by_cases h : 0 ≤ n ∧ n ≤ 200 <;> simp [h]
theorem ex_FnExactPastNew (n : Int) (_ : wfI n) : ∃ r, x_spec_PastNew n = some r ∧ x_impl_PastNew n = some r ∧ szDStory r.1 ≤ 1000000000 := by
  refine ⟨_, spec_new n, impl_new n, ?_⟩
  unfold newS
  split <;> simp [szDStory, szI, lenL, sumL]
end Go.Proofs.Ythnnhoabdhhkaaa
