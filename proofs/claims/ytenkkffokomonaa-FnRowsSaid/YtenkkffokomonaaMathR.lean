/- Plain law: the rows, joined, give the text; a place is found in its row. No condition. -/
import Derived.Test.YtenkkffokomonaaMathA
namespace Go.Proofs.Ytenkkffokomonaa

theorem made_ok {t : List Int} (h1 : t.length ≤ 13) (h : ∀ x ∈ t, x = 10 ∨ x = 97 ∨ x = 98 ∨ x = 99) : textOk t = true := by
  have h2 : signsOk t = true := by
    unfold signsOk
    rw [List.all_eq_true]
    intro x hx
    rcases h x hx with rfl | rfl | rfl | rfl <;> rfl
  simp only [textOk, h2, Bool.and_true, decide_eq_true_eq]
  omega

theorem rowsFrom_ten (i : Nat) (t : List Int) : ∀ x ∈ rowsFrom i t, t.getD (x - 1 - (i : Int)).toNat 0 = 10 := by
  induction t generalizing i with
  | nil => simp [rowsFrom]
  | cons c t ih =>
    intro x hx
    simp only [rowsFrom] at hx
    have key : x ∈ rowsFrom (i + 1) t → (c :: t).getD (x - 1 - (i : Int)).toNat 0 = 10 := fun h => by
      have h1 := ih (i + 1) x h
      have h2 := rowsFrom_ge (i + 1) t x h
      rw [show (x - 1 - (i : Int)).toNat = (x - 1 - ((i + 1 : Nat) : Int)).toNat + 1 by omega, List.getD_cons_succ]
      exact h1
    split at hx
    · rename_i hc
      rcases List.mem_cons.1 hx with rfl | hx
      · rw [show ((i : Int) + 1 - 1 - (i : Int)).toNat = 0 by omega]; exact hc
      · exact key hx
    · exact key hx

theorem rows_ten {t : List Int} (ht : textOk t = true) {i : Nat} (h0 : 0 < i) (hi : i < (rows t).length) : t.getD ((rows t).getD i 0 - 1).toNat 0 = 10 ∧ 1 ≤ (rows t).getD i 0 := by
  have e : rows t = 0 :: rowsFrom 0 t := by simp [rows, ht]
  obtain ⟨j, rfl⟩ : ∃ j, i = j + 1 := ⟨i - 1, by omega⟩
  rw [e] at hi ⊢
  have hj : j < (rowsFrom 0 t).length := by simpa using hi
  rw [List.getD_cons_succ]
  have hm : (rowsFrom 0 t).getD j 0 ∈ rowsFrom 0 t := by
    rw [List.getD_eq_getElem?_getD, List.getElem?_eq_getElem hj]; exact List.getElem_mem hj
  have h1 := rowsFrom_ten 0 t _ hm
  have h2 := rowsFrom_ge 0 t _ hm
  refine ⟨?_, by omega⟩
  rw [show ((rowsFrom 0 t).getD j 0 - 1).toNat = ((rowsFrom 0 t).getD j 0 - 1 - ((0 : Nat) : Int)).toNat by omega]
  exact h1

theorem rowEnds_at {t : List Int} {i : Nat} (hi : i < (rows t).length) : rowEnds t (i : Int) = ((rows t).getD i 0, if i + 1 < (rows t).length then (rows t).getD (i + 1) 0 - 1 else (t.length : Int), true) := by
  have hw : within (i : Int) 0 (((rows t).length : Int) - 1) = true := within_iff.2 (by omega)
  by_cases h : i + 1 < (rows t).length
  · rw [rowEnds_mid hw (by omega), if_pos h]; rfl
  · rw [rowEnds_last hw (by omega), if_neg h]; rfl

theorem rs_ok {t : List Int} {i : Nat} (h : i < (rows t).length) : (rowSigns t (i : Int)).2 = true := by
  rw [rowSigns_yes (by rw [rowEnds_at h])]

def soFar (t : List Int) (i : Nat) : List Int := if i = 0 then [] else t.take (rowEnds t ((i - 1 : Nat) : Int)).2.1.toNat

theorem soFar_len (t : List Int) (i : Nat) : (soFar t i).length ≤ t.length := by
  unfold soFar
  split <;> simp
  omega

theorem soFar_step0 {t : List Int} (ht : textOk t = true) : soFar t 0 ++ (rowSigns t ((0 : Nat) : Int)).1 = soFar t (0 + 1) := by
  have h := rowEnds_at (rows_pos ht)
  rw [rowSigns_yes (by rw [h])]
  simp only [soFar, if_true, List.nil_append, h, Nat.zero_add, Nat.one_ne_zero, if_false, Nat.sub_self, rows_zero]
  rfl

theorem take_drop_join {T : Type} (t : List T) {a b : Nat} (h : a ≤ b) : t.take a ++ (t.take b).drop a = t.take b := by
  have h1 := List.take_append_drop a (t.take b)
  rw [List.take_take, Nat.min_eq_left h] at h1
  exact h1

theorem soFar_step {t : List Int} (ht : textOk t = true) {i : Nat} (h0 : 0 < i) (hi : i < (rows t).length) : soFar t i ++ [10] ++ (rowSigns t (i : Int)).1 = soFar t (i + 1) := by
  have h1 := rowEnds_at hi
  have h2 := rowEnds_at (t := t) (i := i - 1) (by omega)
  rw [show i - 1 + 1 = i by omega, if_pos hi] at h2
  obtain ⟨ht1, ht2⟩ := rows_ten ht h0 hi
  have h3 := rows_get t i
  have hk := rowEnds_ok (t := t) (row := (i : Int)) (by rw [h1])
  rw [rowSigns_yes (by rw [h1])]
  simp only [soFar, if_neg (show ¬ i = 0 by omega), if_neg (show ¬ i + 1 = 0 by omega), Nat.add_sub_cancel, h2]
  have e : t.take ((rows t).getD i 0 - 1).toNat ++ [10] = t.take ((rows t).getD i 0).toNat := by
    rw [show ((rows t).getD i 0).toNat = ((rows t).getD i 0 - 1).toNat + 1 by omega, take_snoc t _ 0 (by omega), ht1]
  rw [e]
  have e1 : (rowEnds t (i : Int)).1 = (rows t).getD i 0 := by rw [h1]
  rw [← e1]
  exact take_drop_join t (by omega)

theorem soFar_end {t : List Int} (ht : textOk t = true) {n : Nat} (hn : n = (rows t).length) : soFar t n = t := by
  subst hn
  have hp := rows_pos ht
  have h := rowEnds_at (t := t) (i := (rows t).length - 1) (by omega)
  simp only [soFar, if_neg (show ¬ (rows t).length = 0 by omega), h, if_neg (show ¬ (rows t).length - 1 + 1 < (rows t).length by omega), Int.toNat_natCast, List.take_length]

theorem rowIdx_spec (l : List Int) (p : Int) (h0 : l.getD 0 0 ≤ p) (k : Nat) : rowIdx l p k ≤ k ∧ l.getD (rowIdx l p k) 0 ≤ p ∧ (rowIdx l p k < k → p < l.getD (rowIdx l p k + 1) 0) := by
  induction k with
  | zero => exact ⟨Nat.le_refl _, h0, fun h => by simp [rowIdx] at h⟩
  | succ k ih =>
    simp only [rowIdx]
    split
    · rename_i h
      refine ⟨by omega, ih.2.1, fun _ => ?_⟩
      by_cases he : rowIdx l p k = k
      · rw [he]; exact h
      · exact ih.2.2 (by omega)
    · rename_i h
      exact ⟨Nat.le_refl _, by omega, fun h => by omega⟩

theorem rowOf_back {t : List Int} (ht : textOk t = true) {p : Nat} (hp : p ≤ t.length) : (rowOf t (p : Int)).2.2 = true ∧ placeOf t (rowOf t (p : Int)).1 (rowOf t (p : Int)).2.1 = ((p : Int), true) := by
  have hw : within (p : Int) 0 t.length = true := within_iff.2 (by omega)
  obtain ⟨h1, h2, h3⟩ := rowIdx_spec (rows t) (p : Int) (by rw [rows_zero]; omega) ((rows t).length - 1)
  generalize hk : rowIdx (rows t) (p : Int) ((rows t).length - 1) = k at h1 h2 h3
  have hpos := rows_pos ht
  have e : rowOf t (p : Int) = ((k : Int), (p : Int) - (rows t).getD k 0, true) := by simp only [rowOf, ht, hw, hk]; rfl
  have hr := rowEnds_at (t := t) (i := k) (by omega)
  rw [e]
  refine ⟨rfl, ?_⟩
  simp only
  rw [placeOf_yes (by rw [hr]) ?_]
  · rw [hr]; simp only [Prod.mk.injEq, and_true]; omega
  · rw [hr, within_iff]
    simp only
    split
    · rename_i hlt
      have := h3 (by omega)
      omega
    · omega

end Go.Proofs.Ytenkkffokomonaa
