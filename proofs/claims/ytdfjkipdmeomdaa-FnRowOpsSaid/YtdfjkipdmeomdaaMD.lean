/- A row put in. No condition. -/
import Derived.Test.YtdfjkipdmeomdaaMr
namespace Go.Proofs.Ytdfjkipdmeomdaa

theorem i_RowCount (t : List Int) : x_impl_RowCount t = some ((rows t).length : Int) := by unfold x_impl_RowCount; rw [i_Rows]; rfl
theorem s_RowCount (t : List Int) : x_spec_RowCount t = some ((rows t).length : Int) := by unfold x_spec_RowCount; rw [s_Rows]; rfl
def rowsPut (t : List Int) (row : Int) (l : List Int) : List DPart × Bool :=
  if okText t = true ∧ 0 ≤ row ∧ row ≤ (rows t).length then (if row = (rows t).length then putAt t.length t.length ([10] ++ l) else putAt t.length (el (rows t) row.toNat) (l ++ [10])) else ([], false)
theorem i_RowsPut (t : List Int) (row : Int) (l : List Int) (hl : l.length ≤ 1048576) : x_impl_RowsPut t row l = some (rowsPut t row l) := by
  unfold x_impl_RowsPut rowsPut
  simp only [i_TextOk, i_RowCount, i_within, i_Rows, Option.bind_some]
  cases ht : okText t with
  | false => simp
  | true =>
    have htl := okText_len ht
    simp only [Bool.not_true, cd_F, Option.bind_some]
    by_cases hr : 0 ≤ row ∧ row ≤ ((rows t).length : Int)
    · rw [decide_eq_true hr, Bool.not_true, cd_F, if_pos ⟨trivial, hr⟩]
      by_cases he : row = ((rows t).length : Int)
      · rw [cd_t he, if_pos he, xg_of (by simp only [List.length_singleton]; omega), i_PutAt _ _ _ (by omega)]; rfl
      · rw [cd_f he, if_neg he, xg_of ⟨hr.1, by omega⟩, i_copyInts (by omega), Option.bind_some, xg_of (by simp only [List.length_singleton]; omega), i_PutAt _ _ _ (by omega)]; rfl
    · rw [decide_eq_false hr, Bool.not_false, cd_T, if_neg (fun k => hr k.2)]
theorem s_RowsPut (t : List Int) (row : Int) (l : List Int) (hl : l.length ≤ 1048576) : x_spec_RowsPut t row l = some (rowsPut t row l) := by
  unfold x_spec_RowsPut rowsPut
  simp only [s_TextOk, s_RowCount, s_In, s_Ends, Option.bind_some]
  cases ht : okText t with
  | false => simp
  | true =>
    have htl := okText_len ht
    simp only [Bool.not_true, cd_F, Option.bind_some]
    by_cases hr : 0 ≤ row ∧ row ≤ ((rows t).length : Int)
    · rw [decide_eq_true hr, Bool.not_true, cd_F, if_pos ⟨trivial, hr⟩]
      by_cases he : row = ((rows t).length : Int)
      · rw [cd_t he, if_pos he, xg_of (by simp only [List.length_singleton]; omega), s_PutAt _ _ _ (by simp only [List.length_append, List.length_singleton]; omega)]; rfl
      · have e : (ends t row).1 = el (rows t) row.toNat := by unfold ends; rw [if_pos ⟨hr.1, by omega⟩]
        rw [cd_f he, if_neg he, xg_of (by omega), xg_of (by simp; omega), e, List.nil_append, s_PutAt _ _ _ (by simp only [List.length_append, List.length_singleton]; omega)]; rfl
    · rw [decide_eq_false hr, Bool.not_false, cd_T, if_neg (fun k => hr k.2)]
theorem putAt_sz' (n a : Int) (l : List Int) : lenL szDPart (putAt n a l).1 ≤ 1000000000 := by
  unfold putAt
  split
  · rename_i h; have := okOp_sz (okOp_nrm h.2); simp only; omega
  · simp [lenL, sumL]
theorem ex_FnExactRowsPut (t : List Int) (row : Int) (l : List Int) (_ : wfL wfI t) (_ : wfI row) (_ : wfL wfI l) (_ : t.length ≤ 1048576) (hl : l.length ≤ 1048576) : ∃ r, x_spec_RowsPut t row l = some r ∧ x_impl_RowsPut t row l = some r ∧ lenL szDPart r.1 ≤ 1000000000 := by
  refine ⟨_, s_RowsPut t row l hl, i_RowsPut t row l hl, ?_⟩
  unfold rowsPut
  split
  · split <;> exact putAt_sz' _ _ _
  · simp [lenL, sumL]
end Go.Proofs.Ytdfjkipdmeomdaa
