/- What both functions give: touches, clashes, rows, marks. No condition. -/
import Derived.Test.YtnpfbhejekpmaaaMr
import Derived.Test.YtnpfbhejekpmaaaMm
namespace Go.Proofs.Ytnpfbhejekpmaaa
theorem ex_FnExactTouches (o : List DPart) (_ : wfL wfDPart o) (_ : lenL szDPart o ≤ 1048576) : ∃ r, x_spec_Touches o = some r ∧ x_impl_Touches o = some r ∧ lenL szI r ≤ 1000000000 := by
  refine ⟨_, s_Touches o, i_Touches o, ?_⟩
  rw [lenI, touches_len]
  split
  · rename_i h; have := okOp_from h; omega
  · omega
theorem ex_FnExactClashes (a b : List DPart) (_ : wfL wfDPart a) (_ : wfL wfDPart b) (_ : lenL szDPart a ≤ 1048576) (_ : lenL szDPart b ≤ 1048576) : ∃ r, x_spec_Clashes a b = some r ∧ x_impl_Clashes a b = some r := ⟨_, s_Clashes a b, i_Clashes a b⟩
theorem ex_FnExactApart (a b : List DPart) (_ : wfL wfDPart a) (_ : wfL wfDPart b) (_ : lenL szDPart a ≤ 1048576) (_ : lenL szDPart b ≤ 1048576) : ∃ r, x_spec_Apart a b = some r ∧ x_impl_Apart a b = some r := ⟨_, s_Apart a b, i_Apart a b⟩
theorem dropAt_sz (n a m : Int) : lenL szDPart (dropAt n a m).1 ≤ 1000000000 := by
  unfold dropAt
  split
  · rename_i h; have := okOp_sz (okOp_nrm h.2); simp only; omega
  · simp [lenL, sumL]
theorem putAt_sz (n a : Int) (l : List Int) : lenL szDPart (putAt n a l).1 ≤ 1000000000 := by
  unfold putAt
  split
  · rename_i h; have := okOp_sz (okOp_nrm h.2); simp only; omega
  · simp [lenL, sumL]
theorem ex_FnExactRowsDrop (t : List Int) (row : Int) (_ : wfL wfI t) (_ : wfI row) (_ : t.length ≤ 1048576) : ∃ r, x_spec_RowsDrop t row = some r ∧ x_impl_RowsDrop t row = some r ∧ lenL szDPart r.1 ≤ 1000000000 := by
  refine ⟨_, s_RowsDrop t row, i_RowsDrop t row, ?_⟩
  unfold rowsDrop
  split
  · split
    · exact dropAt_sz _ _ _
    · split <;> exact dropAt_sz _ _ _
  · simp [lenL, sumL]
theorem ex_FnExactRowMoved (t : List Int) (o : List DPart) (row : Int) (_ : wfL wfI t) (_ : wfL wfDPart o) (_ : wfI row) (_ : t.length ≤ 1048576) (_ : lenL szDPart o ≤ 1048576) : ∃ r, x_spec_RowMoved t o row = some r ∧ x_impl_RowMoved t o row = some r := ⟨_, s_RowMoved t o row, i_RowMoved t o row⟩
theorem lenM (l : List DMark) : lenL szDMark l = l.length := lenL_z (fun _ => rfl) l
theorem ex_FnExactMarksMove (l : List DMark) (o : List DPart) (_ : wfL wfDMark l) (_ : wfL wfDPart o) (h : lenL szDMark l ≤ 1048576) (_ : lenL szDPart o ≤ 1048576) : ∃ r, x_spec_MarksMove l o = some r ∧ x_impl_MarksMove l o = some r ∧ lenL szDMark r.1 ≤ 1000000000 := by
  rw [lenM] at h
  refine ⟨_, s_MarksMove l o (by omega), i_MarksMove l o (by omega), ?_⟩
  rw [lenM]
  unfold marksMove
  split
  · simp; omega
  · simp
end Go.Proofs.Ytnpfbhejekpmaaa
