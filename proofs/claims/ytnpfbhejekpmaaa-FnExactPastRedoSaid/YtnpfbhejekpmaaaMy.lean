/- What both functions give: stories. No condition. -/
import Derived.Test.YtnpfbhejekpmaaaMs
namespace Go.Proofs.Ytnpfbhejekpmaaa
theorem ex_FnExactPastOk (p : DStory) (_ : wfDStory p) (h : szDStory p ≤ 1048576) : ∃ r, x_spec_PastOk p = some r ∧ x_impl_PastOk p = some r := by
  have hs := smz_DStory p (by omega)
  exact ⟨_, s_PastOk p hs, i_PastOk p hs⟩
theorem ex_FnExactPastDo (p : DStory) (o : List DPart) (t : List Int) (_ : wfDStory p) (_ : wfL wfDPart o) (_ : wfL wfI t) (h : szDStory p ≤ 1048576) (_ : lenL szDPart o ≤ 1048576) (_ : t.length ≤ 1048576) : ∃ r, x_spec_PastDo p o t = some r ∧ x_impl_PastDo p o t = some r ∧ szDStory r.1 ≤ 1000000000 := by
  have hs := smz_DStory p (by omega)
  exact ⟨_, s_PastDo p o t hs, i_PastDo p o t hs, pastDo_sz p o t h⟩
theorem undo_len (p : DStory) (h : szDStory p ≤ 1048576) : p.undo.length ≤ 1048576 ∧ p.redo.length ≤ 1048576 := by
  unfold szDStory at h
  unfold lenL at h
  omega
theorem ex_FnExactPastUndo (p : DStory) (t : List Int) (_ : wfDStory p) (_ : wfL wfI t) (h : szDStory p ≤ 1048576) (_ : t.length ≤ 1048576) : ∃ r, x_spec_PastUndo p t = some r ∧ x_impl_PastUndo p t = some r ∧ szDStory r.1 ≤ 1000000000 ∧ lenL szDPart r.2.1 ≤ 1000000000 := by
  have hs := smz_DStory p (by omega)
  have hl := undo_len p h
  exact ⟨_, s_PastUndo p t hs (by omega), i_PastUndo p t hs (by omega), pastUndo_sz p t h⟩
theorem ex_FnExactPastRedo (p : DStory) (t : List Int) (_ : wfDStory p) (_ : wfL wfI t) (h : szDStory p ≤ 1048576) (_ : t.length ≤ 1048576) : ∃ r, x_spec_PastRedo p t = some r ∧ x_impl_PastRedo p t = some r ∧ szDStory r.1 ≤ 1000000000 ∧ lenL szDPart r.2.1 ≤ 1000000000 := by
  have hs := smz_DStory p (by omega)
  have hl := undo_len p h
  have hz := pastUndo_sz (swapS p) t (by rw [swap_sz]; exact h)
  refine ⟨_, s_PastRedo p t hs (by omega), i_PastRedo p t hs (by omega), ?_, hz.2⟩
  unfold pastRedo
  simp only [swap_sz]
  exact hz.1
end Go.Proofs.Ytnpfbhejekpmaaa
