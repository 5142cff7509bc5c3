/- Normal forms by the reference; what an operation does to a text, to a place, and where it touches a text. No condition. -/
import Derived.Test.YtdfjkipdmeomdaaDoorMh
import Derived.Test.YtdfjkipdmeomdaaDoorG3
namespace Go.Proofs.YtdfjkipdmeomdaaDoor


-- What becomes of a text
def fits (o : List DPart) (t : List Int) : Bool := okOp o && okText t && decide (fromOf o = t.length)
theorem fits_get {o : List DPart} {t : List Int} (h : fits o t = true) : okOp o = true ∧ okText t = true ∧ fromOf o = t.length := by
  unfold fits at h
  simp only [Bool.and_eq_true, decide_eq_true_eq] at h
  exact ⟨h.1.1, h.1.2, h.2⟩
theorem okText_len {t : List Int} (h : okText t = true) : t.length ≤ 200 := by
  unfold okText at h
  simp only [Bool.and_eq_true, decide_eq_true_eq] at h
  exact h.1
theorem from_cons (x : DPart) (o : List DPart) : fromOf (x :: o) = pFrom x + fromOf o := rfl
theorem to_cons (x : DPart) (o : List DPart) : toOf (x :: o) = pTo x + toOf o := rfl
theorem from_ok {o : List DPart} (h : ∀ p ∈ o, okPart p = true) : 0 ≤ fromOf o := sumI_nn fun x hx => (bd_part (h x hx)).2.2.2.1.1
theorem drop_toNat {t : List Int} {a n : Int} (ha : 0 ≤ a) (hn : 0 ≤ n) : t.drop (a + n).toNat = (t.drop a.toNat).drop n.toNat := by rw [List.drop_drop]; congr 1; omega
theorem take_toNat {t : List Int} {a n : Int} (ha : 0 ≤ a) (hn : 0 ≤ n) : (t.take (a + n).toNat).drop a.toNat = (t.drop a.toNat).take n.toNat := by rw [List.drop_take]; congr 1; omega

-- Places
def shiftL (a : Int) (after : Bool) : List DPart → Int → Int → Int
  | [], _, j => j
  | q :: o, i, j => if q.kind = 1 then (if a < i + q.n then j + a - i else shiftL a after o (i + q.n) (j + q.n)) else if q.kind = 2 then (if a = i ∧ after = false then j else shiftL a after o i (j + q.signs.length)) else (if a < i + q.n then j else shiftL a after o (i + q.n) j)
def shift (o : List DPart) (a : Int) (after : Bool) : Int × Bool := if okOp o = true ∧ 0 ≤ a ∧ a ≤ fromOf o then (shiftL a after (nrm o) 0 0, true) else (0, false)
theorem i_shift_loop {o : List DPart} (ho : ∀ p ∈ o, okPart p = true) (hl : o.length ≤ 600) {a : Int} (ha : 0 ≤ a) (ha2 : a ≤ 200) (after : Bool) :
    ∃ y, eachN (x_impl_Shift_f0 a after o) (fun (s226 : Int × Int) => (Sum.inl s226.2 : Sum Int (Int × Bool))) o.length 0 (0, 0) = some y ∧ Sum.elim (fun y => some (y, true)) (fun y => some (y.1, y.2)) y = some (shiftL a after o 0 0, true) := by
  refine each_ex (F := x_impl_Shift_f0 a after o) o (fun r k s => (∀ p ∈ r, okPart p = true) ∧ 0 ≤ s.1 ∧ s.1 ≤ 200 * k ∧ 0 ≤ s.2 ∧ s.2 ≤ 200 * k ∧ k + r.length = o.length) (fun r _ s y => Sum.elim (fun y => some (y, true)) (fun y => some (y.1, y.2)) y = some (shiftL a after r s.1 s.2, true)) (fun _ _ => rfl) (fun x r k s hk hx hP => ?_) (0, 0) ⟨ho, by simp, by simp, by simp, by simp, by simp⟩
  obtain ⟨i, j⟩ := s
  obtain ⟨h1, h2, h3, h4, h5, h6⟩ := hP
  simp only [List.length_cons] at h2 h3 h4 h5 h6 ⊢
  have hx1 := h1 x (by simp)
  have hx2 := okPart_len hx1
  have hr1 : ∀ p ∈ r, okPart p = true := fun p hp => h1 p (by simp [hp])
  unfold x_impl_Shift_f0 x_impl_Shift_b0
  rw [hx]
  simp only [shiftL]
  rcases okPart_cases hx1 with ⟨k1, k2, k3, k4⟩ | ⟨k1, k2, k3, k4⟩ | ⟨k1, k2, k3, k4⟩
  · rw [cd_t k1, xg_I (by omega) (by omega), if_pos k1]
    by_cases hc : a < i + x.n
    · rw [cd_t hc, xg_I (by omega) (by omega), xg_I (by omega) (by omega), if_pos hc]; exact .inr ⟨_, rfl, rfl⟩
    · rw [cd_f hc, xg_I (by omega) (by omega), xg_I (by omega) (by omega), if_neg hc]
      exact .inl ⟨_, rfl, ⟨hr1, by simp only; omega, by simp only; omega, by simp only; omega, by simp only; omega, by omega⟩, fun y hy => hy⟩
  · rw [cd_f (by omega), cd_t k1, if_neg (by omega), if_pos k1, cs_, Option.bind_some]
    by_cases hc : a = i ∧ after = false
    · rw [if_pos hc, decide_eq_true hc.1, hc.2]; exact .inr ⟨_, rfl, rfl⟩
    · have hb : (bif decide (a = i) then !after else false) = false := by
        by_cases h : a = i
        · cases after
          · exact absurd ⟨h, rfl⟩ hc
          · simp
        · simp [h]
      rw [if_neg hc, hb, cd_F, xg_I (by omega) (by omega)]
      exact .inl ⟨_, rfl, ⟨hr1, by simp only; omega, by simp only; omega, by simp only; omega, by simp only; omega, by omega⟩, fun y hy => hy⟩
  · rw [cd_f (by omega), cd_f (by omega), xg_I (by omega) (by omega), if_neg (by omega), if_neg (by omega)]
    by_cases hc : a < i + x.n
    · rw [cd_t hc, if_pos hc]; exact .inr ⟨_, rfl, rfl⟩
    · rw [cd_f hc, xg_I (by omega) (by omega), if_neg hc]
      exact .inl ⟨_, rfl, ⟨hr1, by simp only; omega, by simp only; omega, by simp only; omega, by simp only; omega, by omega⟩, fun y hy => hy⟩
theorem i_Shift (o : List DPart) (a : Int) (after : Bool) : x_impl_Shift o a after = some (shift o a after) := by
  unfold x_impl_Shift shift
  simp only [i_OpOk, i_OpFrom, i_within, i_OpNorm, Option.bind_some, cs_, co_]
  cases h : okOp o with
  | false => simp
  | true =>
    have hn := okOp_nrm h
    have hf := okOp_from h
    simp only [okOp_parts h, if_true, Bool.not_true, Bool.false_or, true_and]
    by_cases hc : 0 ≤ a ∧ a ≤ fromOf o
    · rw [decide_eq_true hc, if_pos hc, Bool.not_true, cd_F]
      obtain ⟨y, h1, h2⟩ := i_shift_loop (o := nrm o) (fun p hp => okParts_mem (okOp_parts hn) hp) (okParts_len (okOp_parts hn)) hc.1 (by omega) after
      rw [h1]; exact h2
    · rw [decide_eq_false hc, if_neg hc]; rfl
end Go.Proofs.YtdfjkipdmeomdaaDoor
