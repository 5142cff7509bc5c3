/- Plain definitions: what the functions of rows and marks compute. No condition. -/
namespace Go.Proofs.Ythnnhoabdhhkaaa

theorem bnot_t {b : Bool} (h : (!b) = true) : b = false := by cases b <;> simp_all
theorem bnot_f {b : Bool} (h : (!b) = false) : b = true := by cases b <;> simp_all

def within (n lo hi : Int) : Bool := decide (lo ≤ n) && decide (n ≤ hi)
def signOk (n : Int) : Bool := within n 0 1114111 && !within n 55296 57343
def signsOk (l : List Int) : Bool := l.all signOk
def textOk (l : List Int) : Bool := decide ((l.length : Int) ≤ 200) && signsOk l

/-- Where rows begin, from position i on. -/
def rowsFrom : Nat → List Int → List Int
  | _, [] => []
  | i, c :: t => if c = 10 then ((i : Int) + 1) :: rowsFrom (i + 1) t else rowsFrom (i + 1) t
def rows (t : List Int) : List Int := if textOk t then 0 :: rowsFrom 0 t else []

theorem rowsFrom_append (i : Nat) (a b : List Int) : rowsFrom i (a ++ b) = rowsFrom i a ++ rowsFrom (i + a.length) b := by
  induction a generalizing i with
  | nil => simp [rowsFrom]
  | cons c a ih =>
    simp only [List.cons_append, rowsFrom, List.length_cons]
    rw [ih, show i + 1 + a.length = i + (a.length + 1) by omega]
    split <;> simp

theorem take_snoc {T : Type} (l : List T) (k : Nat) (d0 : T) (h : k < l.length) : l.take (k + 1) = l.take k ++ [l.getD k d0] := by
  rw [List.take_add_one, List.getD_eq_getElem?_getD, List.getElem?_eq_getElem h]; rfl

theorem rowsFrom_take (t : List Int) (k : Nat) (h : k < t.length) : rowsFrom 0 (t.take (k + 1)) = rowsFrom 0 (t.take k) ++ (if t.getD k 0 = 10 then [(k : Int) + 1] else []) := by
  rw [take_snoc t k 0 h, rowsFrom_append]
  have : (t.take k).length = k := by simp; omega
  rw [this, Nat.zero_add]
  simp only [rowsFrom]

theorem rowsFrom_len (i : Nat) (t : List Int) : (rowsFrom i t).length ≤ t.length := by
  induction t generalizing i with
  | nil => simp [rowsFrom]
  | cons c t ih =>
    have := ih (i + 1)
    simp only [rowsFrom, List.length_cons]
    split <;> simp <;> omega

theorem all_take {T : Type} (p : T → Bool) (l : List T) (k : Nat) (d0 : T) (h : k < l.length) : (l.take (k + 1)).all p = ((l.take k).all p && p (l.getD k d0)) := by
  rw [take_snoc l k d0 h]; simp

theorem all_false {T : Type} (l : List T) (k : Nat) (d0 : T) (p : T → Bool) (h : k < l.length) (hp : p (l.getD k d0) = false) : l.all p = false := by
  rw [List.all_eq_false]
  refine ⟨l.getD k d0, ?_, by simpa using hp⟩
  rw [List.getD_eq_getElem?_getD, List.getElem?_eq_getElem h]
  exact List.getElem_mem h

/-- 1, 2, .. from k on. -/
def upFrom : Int → Nat → List Int
  | _, 0 => []
  | k, n + 1 => k :: upFrom (k + 1) n

/-- The first j numbers have been set to k, k + 1, .. -/
def marked (l : List Int) (k : Int) (j : Nat) : List Int := upFrom k j ++ l.drop j

theorem upFrom_len (k : Int) (n : Nat) : (upFrom k n).length = n := by
  induction n generalizing k with
  | zero => rfl
  | succ n ih => simp [upFrom, ih]

theorem upFrom_snoc (k : Int) (n : Nat) : upFrom k (n + 1) = upFrom k n ++ [k + (n : Int)] := by
  induction n generalizing k with
  | zero => simp [upFrom]
  | succ n ih =>
    rw [upFrom, ih]
    simp only [upFrom, List.cons_append]
    congr 3
    omega

theorem marked_set (l : List Int) (k : Int) (j : Nat) (h : j < l.length) : (marked l k j).set j (k + (j : Int)) = marked l k (j + 1) := by
  unfold marked
  rw [List.set_append_right _ _ (by rw [upFrom_len]; omega), upFrom_len, Nat.sub_self, upFrom_snoc, List.append_assoc]
  congr 1
  rw [List.drop_eq_getElem_cons h]
  rfl

theorem marked_len (l : List Int) (k : Int) (j : Nat) (h : j ≤ l.length) : (marked l k j).length = l.length := by
  unfold marked
  simp [upFrom_len]; omega

theorem upFrom_get (k : Int) (n i : Nat) (h : i < n) : (upFrom k n).getD i 0 = k + (i : Int) := by
  induction n generalizing k i with
  | zero => omega
  | succ n ih =>
    cases i with
    | zero => simp [upFrom]
    | succ i =>
      simp only [upFrom, List.getD_cons_succ]
      rw [ih (k + 1) i (by omega), Int.natCast_add]
      omega

theorem rows_no {t : List Int} (h : textOk t = false) : [] = rows t := by simp [rows, h]
theorem rows_yes {t : List Int} {k : Nat} (h : textOk t = true) (hk : t.length ≤ k) : 0 :: rowsFrom 0 (t.take k) = rows t := by
  rw [List.take_of_length_le hk]; simp [rows, h]
theorem rows_room {t : List Int} (k : Nat) (h : textOk t = true) : (0 :: rowsFrom 0 (t.take k)).length ≤ 201 := by
  have h1 := rowsFrom_len 0 (t.take k)
  simp only [textOk, Bool.and_eq_true, decide_eq_true_eq] at h
  simp only [List.length_cons, List.length_take] at h1 ⊢
  omega
theorem textOk_len {t : List Int} (h : textOk t = true) : (t.length : Int) ≤ 200 := by
  simp only [textOk, Bool.and_eq_true, decide_eq_true_eq] at h; exact h.1

theorem rowsFrom_ge (i : Nat) (t : List Int) : ∀ x ∈ rowsFrom i t, (i : Int) < x ∧ x ≤ (i : Int) + t.length := by
  induction t generalizing i with
  | nil => simp [rowsFrom]
  | cons c t ih =>
    intro x hx
    simp only [rowsFrom] at hx
    have key : x ∈ rowsFrom (i + 1) t → (i : Int) < x ∧ x ≤ (i : Int) + (c :: t).length := fun h => by
      have := ih (i + 1) x h
      simp only [List.length_cons]
      omega
    split at hx
    · rcases List.mem_cons.1 hx with rfl | hx
      · simp only [List.length_cons]; omega
      · exact key hx
    · exact key hx

theorem rows_get (t : List Int) (k : Nat) : 0 ≤ (rows t).getD k 0 ∧ (rows t).getD k 0 ≤ t.length := by
  by_cases hk : k < (rows t).length
  · have hm : (rows t).getD k 0 ∈ rows t := by
      rw [List.getD_eq_getElem?_getD, List.getElem?_eq_getElem hk]; exact List.getElem_mem hk
    unfold rows at hm ⊢
    split at hm
    · rename_i h
      simp only [h, if_true]
      rcases List.mem_cons.1 hm with h1 | h1
      · rw [h1]; omega
      · have := rowsFrom_ge 0 t _ h1
        omega
    · cases hm
  · rw [List.getD_eq_getElem?_getD, List.getElem?_eq_none (by omega)]
    simp

theorem rows_zero (t : List Int) : (rows t).getD 0 0 = 0 := by unfold rows; split <;> rfl

/-- The last of the first k + 1 rows that begins at or ahead of a place. -/
def rowIdx (l : List Int) (at' : Int) : Nat → Nat
  | 0 => 0
  | k + 1 => if at' < l.getD (k + 1) 0 then rowIdx l at' k else k + 1

def rowOf (t : List Int) (p : Int) : Int × Int × Bool :=
  if textOk t && within p 0 t.length then
    (((rowIdx (rows t) p ((rows t).length - 1) : Nat) : Int), p - (rows t).getD (rowIdx (rows t) p ((rows t).length - 1)) 0, true)
  else (0, 0, false)

theorem rows_pos {t : List Int} (h : textOk t = true) : 0 < (rows t).length := by simp [rows, h]
theorem rows_len_of {t : List Int} (h : 0 < (rows t).length) : textOk t = true := by
  unfold rows at h; split at h
  · assumption
  · simp at h

theorem rowIdx_step {l : List Int} {p : Int} {k : Nat} (h : p < l.getD k 0) (hk : 0 < k) : rowIdx l p k = rowIdx l p (k - 1) := by
  obtain ⟨j, rfl⟩ : ∃ j, k = j + 1 := ⟨k - 1, by omega⟩
  simp only [rowIdx, if_pos h, Nat.add_sub_cancel]
theorem rowIdx_stop {l : List Int} {p : Int} {k : Nat} (h : ¬ p < l.getD k 0) : rowIdx l p k = k := by
  cases k with
  | zero => rfl
  | succ k => simp only [rowIdx, if_neg h]

/-- Where a row begins and ends. -/
def rowEnds (t : List Int) (row : Int) : Int × Int × Bool :=
  if within row 0 (((rows t).length : Int) - 1) then
    ((rows t).getD row.toNat 0, if row + 1 < ((rows t).length : Int) then (rows t).getD (row + 1).toNat 0 - 1 else (t.length : Int), true)
  else (0, 0, false)

def placeOf (t : List Int) (row col : Int) : Int × Bool :=
  if (rowEnds t row).2.2 && within col 0 ((rowEnds t row).2.1 - (rowEnds t row).1) then ((rowEnds t row).1 + col, true) else (0, false)

def rowSigns (t : List Int) (row : Int) : List Int × Bool :=
  if (rowEnds t row).2.2 then ((t.take (rowEnds t row).2.1.toNat).drop (rowEnds t row).1.toNat, true) else ([], false)

theorem within_iff {n lo hi : Int} : within n lo hi = true ↔ lo ≤ n ∧ n ≤ hi := by simp [within]
theorem within_no {n lo hi : Int} (h : within n lo hi = false) : ¬ (lo ≤ n ∧ n ≤ hi) := by
  intro h'; rw [within_iff.2 h'] at h; cases h

theorem copy_step {T : Type} (a : List T) (k : Nat) (d0 : T) (h : k < a.length) : (a.take k ++ List.replicate (a.length - k) d0).set k (a.getD k d0) = a.take (k + 1) ++ List.replicate (a.length - (k + 1)) d0 := by
  have hl : (a.take k).length = k := by simp; omega
  rw [List.set_append_right _ _ (by omega), hl, Nat.sub_self, take_snoc a k d0 h, List.append_assoc]
  congr 1
  rw [show a.length - k = (a.length - (k + 1)) + 1 by omega, List.replicate_succ]
  rfl
theorem copy_end {T : Type} (a : List T) (k : Nat) (d0 : T) (h : a.length ≤ k) : a.take k ++ List.replicate (a.length - k) d0 = a := by
  rw [List.take_of_length_le h, show a.length - k = 0 by omega]; simp

theorem take_eq_step {T : Type} {a b : List T} {k : Nat} {d0 : T} (ha : k < a.length) (hb : k < b.length) (h : a.take k = b.take k) (he : a.getD k d0 = b.getD k d0) : a.take (k + 1) = b.take (k + 1) := by
  rw [take_snoc a k d0 ha, take_snoc b k d0 hb, h, he]
theorem take_eq_end {T : Type} {a b : List T} {k : Nat} (ha : a.length ≤ k) (hb : b.length ≤ k) (h : a.take k = b.take k) : a = b := by
  rwa [List.take_of_length_le ha, List.take_of_length_le hb] at h

/-- Whether the numbers are k, k + 1, ..: the next one, or -1. -/
def held : List Int → Int → Int
  | [], k => k
  | x :: l, k => if x = k then held l (k + 1) else -1

theorem drop_cons {T : Type} {a : List T} {j : Nat} (d0 : T) (h : j < a.length) : a.drop j = a.getD j d0 :: a.drop (j + 1) := by
  rw [List.drop_eq_getElem_cons h, List.getD_eq_getElem?_getD, List.getElem?_eq_getElem h]; rfl

theorem held_step {a : List Int} {k : Int} {j : Nat} (h : j < a.length) (he : held (a.drop j) (k + (j : Int)) = held a k) (hx : a.getD j 0 = k + (j : Int)) : held (a.drop (j + 1)) (k + ((j + 1 : Nat) : Int)) = held a k := by
  rw [← he, drop_cons 0 h, held, if_pos hx]
  congr 1
  omega
theorem held_stop {a : List Int} {k : Int} {j : Nat} (h : j < a.length) (he : held (a.drop j) (k + (j : Int)) = held a k) (hx : ¬ a.getD j 0 = k + (j : Int)) : -1 = held a k := by
  rw [← he, drop_cons 0 h, held, if_neg hx]
theorem held_end {a : List Int} {k : Int} {j : Nat} (h : a.length ≤ j) (he : held (a.drop j) (k + (j : Int)) = held a k) : k + (j : Int) = held a k := by
  rw [← he, List.drop_eq_nil_of_le h, held]

theorem held_upFrom (k : Int) (n : Nat) : held (upFrom k n) k = k + (n : Int) := by
  induction n generalizing k with
  | zero => simp [upFrom, held]
  | succ n ih => rw [upFrom, held, if_pos rfl, ih]; omega
theorem held_marked (l : List Int) (k : Int) : held (marked l k l.length) k = k + (l.length : Int) := by
  unfold marked
  rw [List.drop_length, List.append_nil, held_upFrom]

theorem rows_len_le (t : List Int) : ((rows t).length : Int) ≤ 201 := by
  unfold rows
  split
  · rename_i h
    have h1 := rowsFrom_len 0 t
    have h2 := textOk_len h
    simp only [List.length_cons]
    omega
  · simp

theorem rowOf_no {t : List Int} {p : Int} (h : (textOk t && within p 0 t.length) = false) : rowOf t p = (0, 0, false) := by simp only [rowOf, h]; rfl
theorem rowOf_yes {t : List Int} {p : Int} {k : Nat} (h1 : textOk t = true) (h2 : within p 0 t.length = true) (hk : rowIdx (rows t) p ((rows t).length - 1) = rowIdx (rows t) p k) (hs : ¬ p < (rows t).getD k 0) : rowOf t p = ((k : Int), p - (rows t).getD k 0, true) := by
  simp only [rowOf, h1, h2, hk, rowIdx_stop hs]; rfl
theorem rows_empty {t : List Int} (h : ((rows t).length : Int) = 0) : textOk t = false := by
  cases h' : textOk t with
  | false => rfl
  | true => have := rows_pos h'; omega

theorem rowOf_no2 {t : List Int} {p : Int} (h : (decide (((rows t).length : Int) = 0) || !within p 0 t.length) = true) : rowOf t p = (0, 0, false) := by
  refine rowOf_no ?_
  rcases (Bool.or_eq_true_iff).1 h with hq | hq
  · rw [rows_empty (of_decide_eq_true hq)]; rfl
  · rw [bnot_t hq, Bool.and_false]
theorem rowEnds_no {t : List Int} {row : Int} (h : within row 0 (((rows t).length : Int) - 1) = false) : rowEnds t row = (0, 0, false) := by simp only [rowEnds, h]; rfl
theorem rowEnds_mid {t : List Int} {row : Int} (h : within row 0 (((rows t).length : Int) - 1) = true) (hl : row + 1 < ((rows t).length : Int)) : rowEnds t row = ((rows t).getD row.toNat 0, (rows t).getD (row + 1).toNat 0 - 1, true) := by
  simp only [rowEnds, h, if_pos hl]; rfl
theorem rowEnds_last {t : List Int} {row : Int} (h : within row 0 (((rows t).length : Int) - 1) = true) (hl : ¬ row + 1 < ((rows t).length : Int)) : rowEnds t row = ((rows t).getD row.toNat 0, (t.length : Int), true) := by
  simp only [rowEnds, h, if_neg hl]; rfl

theorem rowsFrom_sorted (i : Nat) (t : List Int) : (rowsFrom i t).Pairwise (· < ·) := by
  induction t generalizing i with
  | nil => simp [rowsFrom]
  | cons c t ih =>
    simp only [rowsFrom]
    split
    · refine List.pairwise_cons.2 ⟨fun x hx => ?_, ih (i + 1)⟩
      have := rowsFrom_ge (i + 1) t x hx
      omega
    · exact ih (i + 1)

theorem rows_lt (t : List Int) (k : Nat) (h : k + 1 < (rows t).length) : (rows t).getD k 0 < (rows t).getD (k + 1) 0 := by
  have hs : (rows t).Pairwise (· < ·) := by
    unfold rows
    split
    · refine List.pairwise_cons.2 ⟨fun x hx => ?_, rowsFrom_sorted 0 t⟩
      have := rowsFrom_ge 0 t x hx
      omega
    · simp
  have := List.pairwise_iff_getElem.1 hs k (k + 1) (by omega) h (by omega)
  simp only [List.getD_eq_getElem?_getD, List.getElem?_eq_getElem h, List.getElem?_eq_getElem (show k < (rows t).length by omega), Option.getD_some]
  exact this

theorem rowEnds_ok {t : List Int} {row : Int} (h : (rowEnds t row).2.2 = true) : 0 ≤ (rowEnds t row).1 ∧ (rowEnds t row).1 ≤ (rowEnds t row).2.1 ∧ (rowEnds t row).2.1 ≤ (t.length : Int) ∧ (t.length : Int) ≤ 200 := by
  cases hw : within row 0 (((rows t).length : Int) - 1) with
  | false => rw [rowEnds_no hw] at h; cases h
  | true =>
    have hb := within_iff.1 hw
    have ht := textOk_len (rows_len_of (t := t) (by omega))
    by_cases hl : row + 1 < ((rows t).length : Int)
    · rw [rowEnds_mid hw hl]
      have h1 := rows_lt t row.toNat (by omega)
      have h2 := rows_get t row.toNat
      have h3 := rows_get t (row.toNat + 1)
      rw [show (row + 1).toNat = row.toNat + 1 by omega]
      simp only
      omega
    · rw [rowEnds_last hw hl]
      have h2 := rows_get t row.toNat
      simp only
      omega

theorem rowEnds_bd (t : List Int) (row : Int) : 0 ≤ (rowEnds t row).1 ∧ (rowEnds t row).1 ≤ 200 ∧ 0 ≤ (rowEnds t row).2.1 ∧ (rowEnds t row).2.1 ≤ 200 := by
  cases h : (rowEnds t row).2.2 with
  | true => have := rowEnds_ok h; omega
  | false =>
    have e : rowEnds t row = (0, 0, false) := by
      cases hw : within row 0 (((rows t).length : Int) - 1) with
      | false => exact rowEnds_no hw
      | true =>
        by_cases hl : row + 1 < ((rows t).length : Int)
        · rw [rowEnds_mid hw hl] at h; cases h
        · rw [rowEnds_last hw hl] at h; cases h
    rw [e]; simp

theorem placeOf_no {t : List Int} {row col : Int} (h : ((rowEnds t row).2.2 && within col 0 ((rowEnds t row).2.1 - (rowEnds t row).1)) = false) : placeOf t row col = (0, false) := by simp only [placeOf, h]; rfl
theorem placeOf_yes {t : List Int} {row col : Int} (h1 : (rowEnds t row).2.2 = true) (h2 : within col 0 ((rowEnds t row).2.1 - (rowEnds t row).1) = true) : placeOf t row col = ((rowEnds t row).1 + col, true) := by simp only [placeOf, h1, h2]; rfl
theorem rowSigns_no {t : List Int} {row : Int} (h : (rowEnds t row).2.2 = false) : rowSigns t row = ([], false) := by simp only [rowSigns, h]; rfl
theorem rowSigns_yes {t : List Int} {row : Int} (h : (rowEnds t row).2.2 = true) : rowSigns t row = ((t.take (rowEnds t row).2.1.toNat).drop (rowEnds t row).1.toNat, true) := by simp only [rowSigns, h]; rfl

theorem rowSigns_len (t : List Int) (row : Int) : ((rowSigns t row).1.length : Int) ≤ 200 := by
  cases h : (rowEnds t row).2.2 with
  | false => rw [rowSigns_no h]; simp
  | true =>
    rw [rowSigns_yes h]
    have := rowEnds_ok h
    simp
    omega

structure Mk where
  id : Int
  lo : Int
  hi : Int
def mk0 : Mk := ⟨0, 0, 0⟩

theorem rows_mem {t : List Int} {y : Int} (h : ∀ x ∈ t, x = 10 ∨ x = 97 ∨ x = 98 ∨ x = 99) (hy : y ∈ [10, 97, 98, 99, 97]) : ∀ x ∈ t ++ [y], x = 10 ∨ x = 97 ∨ x = 98 ∨ x = 99 := by
  intro x hx
  rcases List.mem_append.1 hx with hx | hx
  · exact h x hx
  · simp at hx hy
    subst hx
    omega

end Go.Proofs.Ythnnhoabdhhkaaa
