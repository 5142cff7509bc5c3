/- Rows of a text; marks that move. No condition. -/
import Derived.Test.YtdfjkipdmeomdaaMt
import Derived.Test.YtdfjkipdmeomdaaG6
namespace Go.Proofs.Ytdfjkipdmeomdaa

def rowsL : List Int → Nat → List Int
  | [], _ => []
  | x :: t, k => if x = 10 then ((k : Int) + 1) :: rowsL t (k + 1) else rowsL t (k + 1)
def rows (t : List Int) : List Int := if okText t then 0 :: rowsL t 0 else []
theorem rowsL_bd : ∀ (t : List Int) (k : Nat), (rowsL t k).length ≤ t.length ∧ ∀ r ∈ rowsL t k, (k : Int) < r ∧ r ≤ k + t.length
  | [], k => by simp [rowsL]
  | x :: t, k => by
    have ih := rowsL_bd t (k + 1)
    unfold rowsL
    simp only [List.length_cons]
    split
    · refine ⟨by simp only [List.length_cons]; omega, fun r hr => ?_⟩
      rcases List.mem_cons.1 hr with rfl | hr
      · omega
      · have := ih.2 r hr; omega
    · exact ⟨by omega, fun r hr => by have := ih.2 r hr; omega⟩
theorem rows_bd (t : List Int) : (rows t).length ≤ t.length + 1 ∧ ∀ r ∈ rows t, 0 ≤ r ∧ r ≤ t.length := by
  unfold rows
  split
  · have h := rowsL_bd t 0
    refine ⟨by simp; omega, fun r hr => ?_⟩
    rcases List.mem_cons.1 hr with rfl | hr
    · omega
    · have := h.2 r hr; omega
  · simp
theorem rows_el (t : List Int) {i : Nat} (h : i < (rows t).length) : 0 ≤ el (rows t) i ∧ el (rows t) i ≤ t.length := (rows_bd t).2 _ (el_mem h)
theorem rows_ok {t : List Int} (h : 0 < (rows t).length) : okText t = true ∧ t.length ≤ 200 ∧ el (rows t) 0 = 0 := by
  unfold rows at *
  cases ho : okText t with
  | false => rw [ho] at h; simp at h
  | true => exact ⟨rfl, okText_len ho, by simp [el]⟩
theorem i_Rows (t : List Int) : x_impl_Rows t = some (rows t) := by
  unfold x_impl_Rows rows
  rw [i_TextOk, Option.bind_some]
  cases h : okText t with
  | false => rfl
  | true =>
    have hl := okText_len h
    rw [Bool.not_true, cd_F, each_run (F := x_impl_Rows_f0 t) (e := fun (s : List Int) => s) t (fun r k s => s.length ≤ k + 1 ∧ k + r.length = t.length) (fun r k s => s ++ rowsL r k) (fun s _ => by simp [rowsL]) (fun x r k s hk hx hP => by
      simp only [List.length_cons] at hP
      unfold x_impl_Rows_f0 x_impl_Rows_b0
      rw [hx]
      by_cases hc : x = 10
      · rw [cd_t hc, xg_of (by omega)]
        exact .inl ⟨_, rfl, ⟨by simp; omega, by omega⟩, by simp [rowsL, hc]⟩
      · rw [cd_f hc]
        exact .inl ⟨_, rfl, ⟨by omega, by omega⟩, by simp [rowsL, hc]⟩) [0] ⟨by simp, by simp⟩]
    rfl
theorem s_Rows (t : List Int) : x_spec_Rows t = some (rows t) := by
  have h : x_spec_Rows_f0 = x_impl_Rows_f0 := rfl
  have h2 := i_Rows t
  unfold x_impl_Rows at h2
  unfold x_spec_Rows
  rw [i_TextOk] at h2
  rw [s_TextOk, h]
  exact h2
def ends (t : List Int) (row : Int) : Int × Int × Bool := if 0 ≤ row ∧ row < (rows t).length then (el (rows t) row.toNat, if row + 1 < (rows t).length then el (rows t) (row + 1).toNat - 1 else t.length, true) else (0, 0, false)
theorem i_Ends (t : List Int) (row : Int) : x_impl_rowEnds t row = some (ends t row) := by
  unfold x_impl_rowEnds ends
  have hb := (rows_bd t).1
  by_cases h0 : 0 < (rows t).length
  · have h1 := rows_ok h0
    rw [i_Rows, Option.bind_some, xg_I (by omega) (by omega), i_within, Option.bind_some]
    by_cases hc : 0 ≤ row ∧ row < (rows t).length
    · rw [decide_eq_true (p := 0 ≤ row ∧ row ≤ ((rows t).length : Int) - 1) (by omega), if_pos hc, Bool.not_true, cd_F, xg_I (by omega) (by omega)]
      by_cases h2 : row + 1 < (rows t).length
      · have h3 := rows_el t (i := (row + 1).toNat) (by omega)
        rw [cd_t h2, if_pos h2, xg_of ⟨by omega, by omega⟩, xg_I (by omega) (by omega), xg_of ⟨by omega, by omega⟩, xg_I (by omega) (by omega)]
      · rw [cd_f h2, if_neg h2, xg_of ⟨by omega, by omega⟩]
    · rw [decide_eq_false (p := 0 ≤ row ∧ row ≤ ((rows t).length : Int) - 1) (by omega), if_neg hc]; rfl
  · rw [i_Rows, Option.bind_some, xg_I (by omega) (by omega), i_within, Option.bind_some, decide_eq_false (p := 0 ≤ row ∧ row ≤ ((rows t).length : Int) - 1) (by omega), if_neg (by omega)]; rfl
theorem s_Ends (t : List Int) (row : Int) : x_spec_l26Ends t row = some (ends t row) := by
  unfold x_spec_l26Ends ends
  have hb := (rows_bd t).1
  by_cases h0 : 0 < (rows t).length
  · have h1 := rows_ok h0
    rw [s_Rows, Option.bind_some, xg_I (by omega) (by omega), s_In, Option.bind_some]
    by_cases hc : 0 ≤ row ∧ row < (rows t).length
    · rw [decide_eq_true (p := 0 ≤ row ∧ row ≤ ((rows t).length : Int) - 1) (by omega), if_pos hc, Bool.not_true, cd_F, xg_I (by omega) (by omega)]
      by_cases h2 : row + 1 < (rows t).length
      · have h3 := rows_el t (i := (row + 1).toNat) (by omega)
        rw [cd_f (by omega), if_pos h2, xg_of ⟨by omega, by omega⟩, xg_I (by omega) (by omega), xg_of ⟨by omega, by omega⟩, xg_I (by omega) (by omega)]
      · rw [cd_t (by omega), if_neg h2, xg_of ⟨by omega, by omega⟩]
    · rw [decide_eq_false (p := 0 ≤ row ∧ row ≤ ((rows t).length : Int) - 1) (by omega), if_neg hc]; rfl
  · rw [s_Rows, Option.bind_some, xg_I (by omega) (by omega), s_In, Option.bind_some, decide_eq_false (p := 0 ≤ row ∧ row ≤ ((rows t).length : Int) - 1) (by omega), if_neg (by omega)]; rfl
theorem ends_bd (t : List Int) (row : Int) : 0 ≤ (ends t row).1 ∧ (ends t row).1 ≤ t.length ∧ -1 ≤ (ends t row).2.1 ∧ (ends t row).2.1 ≤ t.length ∧ ((ends t row).2.2 = true → t.length ≤ 200 ∧ okText t = true) := by
  unfold ends
  split
  · rename_i h
    have h1 := rows_ok (t := t) (by omega)
    have h2 := rows_el t (i := row.toNat) (by omega)
    split
    · have h3 := rows_el t (i := (row + 1).toNat) (by omega)
      simp only; refine ⟨by omega, by omega, by omega, by omega, fun _ => ⟨h1.2.1, h1.1⟩⟩
    · simp only; refine ⟨by omega, by omega, by omega, by omega, fun _ => ⟨h1.2.1, h1.1⟩⟩
  · simp
def rowsDrop (t : List Int) (row : Int) : List DPart × Bool :=
  if (ends t row).2.2 = true then (if (ends t row).2.1 < t.length then dropAt t.length (ends t row).1 ((ends t row).2.1 + 1 - (ends t row).1) else if 0 < (ends t row).1 then dropAt t.length ((ends t row).1 - 1) ((ends t row).2.1 - ((ends t row).1 - 1)) else dropAt t.length (ends t row).1 ((ends t row).2.1 - (ends t row).1)) else ([], false)
theorem i_RowsDrop (t : List Int) (row : Int) : x_impl_RowsDrop t row = some (rowsDrop t row) := by
  unfold x_impl_RowsDrop rowsDrop
  have hb := ends_bd t row
  rw [i_Ends, Option.bind_some]
  generalize ends t row = e at *
  obtain ⟨a, b, c⟩ := e
  simp only at *
  cases c with
  | false => rfl
  | true =>
    have h2 := hb.2.2.2.2 rfl
    rw [Bool.not_true, cd_F, if_pos rfl]
    by_cases h1 : b < t.length
    · rw [cd_t h1, if_pos h1, xg_I (by omega) (by omega), xg_I (by omega) (by omega), i_DropAt _ _ _ (by omega)]; rfl
    · rw [cd_f h1, if_neg h1]
      by_cases h3 : 0 < a
      · rw [cd_t h3, if_pos h3, xg_I (by omega) (by omega), xg_I (by omega) (by omega), i_DropAt _ _ _ (by omega)]; rfl
      · rw [cd_f h3, if_neg h3, xg_I (by omega) (by omega), i_DropAt _ _ _ (by omega)]; rfl
def rowK (r : List Int) (a : Int) : Nat → Nat
  | 0 => 0
  | k + 1 => if a < el r (k + 1) then rowK r a k else k + 1
theorem rowK_le (r : List Int) (a : Int) : ∀ k, rowK r a k ≤ k
  | 0 => Nat.le_refl _
  | k + 1 => by
    unfold rowK
    split
    · have := rowK_le r a k; omega
    · exact Nat.le_refl _
def rowOf (t : List Int) (a : Int) : Int × Int × Bool := if okText t = true ∧ 0 ≤ a ∧ a ≤ t.length then ((rowK (rows t) a ((rows t).length - 1) : Int), a - el (rows t) (rowK (rows t) a ((rows t).length - 1)), true) else (0, 0, false)
theorem i_rowLoop {r : List Int} {a : Int} (h0 : el r 0 ≤ a) (hr : 0 < r.length) (hl : r.length ≤ 1000) : iter (x_impl_RowOf_f0 r a) ((r.length : Int) - 1) = some ((rowK r a (r.length - 1) : Nat) : Int) := by
  have h := iter_go (f := x_impl_RowOf_f0 r a) (fun s => 0 ≤ s ∧ s < r.length) (fun s => s.toNat) (fun s => ((rowK r a s.toNat : Nat) : Int)) (fun s hP => by
    obtain ⟨s, rfl⟩ := Int.eq_ofNat_of_zero_le hP.1
    unfold x_impl_RowOf_f0 x_impl_RowOf_b0
    rw [xg_of ⟨by omega, by omega⟩]
    simp only [Int.toNat_natCast]
    cases s with
    | zero => rw [cd_f (by omega)]; exact .inr rfl
    | succ k =>
      by_cases hc : a < el r (k + 1)
      · rw [cd_t hc, xg_I (by omega) (by omega)]
        refine .inl ⟨_, rfl, ⟨by omega, by omega⟩, by omega, ?_⟩
        rw [rowK, if_pos hc, show (((k + 1 : Nat) : Int) - 1).toNat = k by omega]
      · rw [cd_f hc, rowK, if_neg hc]; exact .inr rfl) ((r.length : Int) - 1) ⟨by omega, by omega⟩
  rw [h, show ((r.length : Int) - 1).toNat = r.length - 1 by omega]
theorem i_RowOf (t : List Int) (a : Int) : x_impl_RowOf t a = some (rowOf t a) := by
  unfold x_impl_RowOf rowOf
  simp only [i_TextOk, i_within, i_Rows, Option.bind_some, cs_, co_]
  cases h : okText t with
  | false => simp
  | true =>
    have h0 : 0 < (rows t).length := by unfold rows; rw [h]; simp
    have h1 := rows_ok h0
    have hb := (rows_bd t).1
    by_cases hc : 0 ≤ a ∧ a ≤ t.length
    · have hk := rowK_le (rows t) a ((rows t).length - 1)
      have he := rows_el t (i := rowK (rows t) a ((rows t).length - 1)) (by omega)
      rw [decide_eq_true hc, if_pos ⟨rfl, hc⟩, Bool.not_true, Bool.false_or, cd_F, xg_I (by omega) (by omega), i_rowLoop (by omega) h0 (by omega), Option.bind_some, xg_of ⟨by omega, by omega⟩, Int.toNat_natCast, xg_I (by omega) (by omega)]
    · rw [decide_eq_false hc, if_neg (fun k => hc k.2)]; rfl
def rowMoved (t : List Int) (o : List DPart) (row : Int) : Int × Bool := if (ends t row).2.2 = true ∧ fits o t = true then ((rowOf (appl o t) (shift o (ends t row).1 true).1).1, true) else (0, false)
theorem i_RowMoved (t : List Int) (o : List DPart) (row : Int) : x_impl_RowMoved t o row = some (rowMoved t o row) := by
  unfold x_impl_RowMoved rowMoved
  simp only [i_Ends, i_Apply, Option.bind_some, cs_, co_, i_Shift, i_RowOf]
  cases h1 : (ends t row).2.2 <;> cases h2 : fits o t <;> simp
end Go.Proofs.Ytdfjkipdmeomdaa
