/- A row put in is found, moves the others, and is taken out again. No condition. -/
import Derived.Test.YtdfjkipdmeomdaaMD
import Derived.Test.YtdfjkipdmeomdaaMq
import Derived.Test.YtdfjkipdmeomdaaL8
namespace Go.Proofs.Ytdfjkipdmeomdaa

theorem rowsL_app : ∀ (a b : List Int) (k : Nat), rowsL (a ++ b) k = rowsL a k ++ rowsL b (k + a.length)
  | [], b, k => by simp [rowsL]
  | x :: a, b, k => by
    have ih := rowsL_app a b (k + 1)
    rw [show k + 1 + a.length = k + (a.length + 1) by omega] at ih
    simp only [List.cons_append, rowsL, List.length_cons, ih]
    split <;> simp
theorem rowsL_plus : ∀ (b : List Int) (k m : Nat), rowsL b (k + m) = (rowsL b k).map (fun x => x + (m : Int))
  | [], k, m => rfl
  | x :: b, k, m => by
    have ih := rowsL_plus b (k + 1) m
    rw [show k + 1 + m = k + m + 1 by omega] at ih
    simp only [rowsL, ih]
    split
    · simp only [List.map_cons, List.cons.injEq, and_true]; omega
    · rfl
theorem rowsL_inc : ∀ (t : List Int) (k : Nat), (rowsL t k).Pairwise (· < ·)
  | [], _ => List.Pairwise.nil
  | x :: t, k => by
    unfold rowsL
    split
    · refine List.Pairwise.cons (fun r hr => ?_) (rowsL_inc t (k + 1))
      have := (rowsL_bd t (k + 1)).2 r hr
      omega
    · exact rowsL_inc t (k + 1)
theorem rows0_inc (t : List Int) : ((0 : Int) :: rowsL t 0).Pairwise (· < ·) := List.Pairwise.cons (fun r hr => by have := (rowsL_bd t 0).2 r hr; omega) (rowsL_inc t 0)
theorem inc_el {l : List Int} (h : l.Pairwise (· < ·)) {i j : Nat} (hij : i < j) (hj : j < l.length) : el l i < el l j := by
  rw [el_eq (show i < l.length by omega), el_eq hj]
  exact List.pairwise_iff_getElem.1 h i j (by omega) hj hij
/-- The text up to the beginning of a row. -/
theorem rowsL_c (x : Int) (t : List Int) (k : Nat) : rowsL (x :: t) k = if x = 10 then ((k : Int) + 1) :: rowsL t (k + 1) else rowsL t (k + 1) := rfl
theorem rowsL_cut : ∀ (t : List Int) (k i : Nat), i < (rowsL t k).length → ∃ p : Nat, el (rowsL t k) i = (k : Int) + p ∧ 1 ≤ p ∧ p ≤ t.length ∧ (rowsL (t.take p) k).length = i + 1
  | [], k, i, h => by simp [rowsL] at h
  | x :: t, k, i, h => by
    rw [rowsL_c] at h ⊢
    by_cases hx : x = 10
    · rw [if_pos hx] at h ⊢
      cases i with
      | zero => exact ⟨1, by show (k : Int) + 1 = _; rfl, by omega, by simp, by rw [List.take_succ_cons, rowsL_c, if_pos hx]; simp [rowsL]⟩
      | succ i =>
        obtain ⟨p, h1, h2, h3, h4⟩ := rowsL_cut t (k + 1) i (by simpa using h)
        refine ⟨p + 1, ?_, by omega, by simp; omega, ?_⟩
        · show el (rowsL t (k + 1)) i = _
          rw [h1]; omega
        · rw [List.take_succ_cons, rowsL_c, if_pos hx]
          simp [h4]
    · rw [if_neg hx] at h ⊢
      obtain ⟨p, h1, h2, h3, h4⟩ := rowsL_cut t (k + 1) i h
      refine ⟨p + 1, by rw [h1]; omega, by omega, by simp; omega, ?_⟩
      rw [List.take_succ_cons, rowsL_c, if_neg hx]; exact h4
theorem row_cut (t : List Int) (i : Nat) (h : i < ((0 : Int) :: rowsL t 0).length) : ∃ p : Nat, el ((0 : Int) :: rowsL t 0) i = p ∧ p ≤ t.length ∧ (rowsL (t.take p) 0).length = i := by
  cases i with
  | zero => exact ⟨0, rfl, by omega, by simp [rowsL]⟩
  | succ i =>
    obtain ⟨p, h1, _, h3, h4⟩ := rowsL_cut t 0 i (by simpa using h)
    exact ⟨p, by show el (rowsL t 0) i = _; rw [h1]; omega, h3, h4⟩
theorem rowK_eq {r : List Int} {a : Int} {j : Nat} (h0 : el r j ≤ a) : ∀ k : Nat, j ≤ k → (∀ i, j < i → i ≤ k → a < el r i) → rowK r a k = j
  | 0, hk, _ => by rw [rowK]; omega
  | k + 1, hk, h => by
    rw [rowK]
    by_cases e : j = k + 1
    · rw [if_neg (by rw [← e]; omega)]; exact e.symm
    · rw [if_pos (h (k + 1) (by omega) (Nat.le_refl _))]
      exact rowK_eq h0 k (by omega) fun i h1 h2 => h i h1 (by omega)
theorem rows_of {t : List Int} (h : okText t = true) : rows t = 0 :: rowsL t 0 := if_pos h
/-- The row of a place at which a row begins, or of the end of the text. -/
theorem rowOf_at {t : List Int} (h : okText t = true) {j : Nat} {a : Int} (hj : j < (0 :: rowsL t 0).length) (h0 : el (0 :: rowsL t 0) j ≤ a) (ha : a ≤ t.length) (hn : ∀ i, j < i → i < (0 :: rowsL t 0).length → a < el (0 :: rowsL t 0) i) (a0 : 0 ≤ a) : (rowOf t a).1 = j := by
  unfold rowOf
  rw [if_pos ⟨h, a0, ha⟩, rows_of h]
  simp only
  rw [rowK_eq h0 _ (by omega) (fun i h1 h2 => hn i h1 (by omega))]

-- One place
theorem appl_three {t l : List Int} {p : Nat} (h : p ≤ t.length) : appl (threeP t.length p l) t = t.take p ++ (l ++ t.drop p) := by
  unfold threeP
  have e : ((t.length : Int) - p).toNat = (t.drop p).length := by rw [List.length_drop]; omega
  simp only [appl, if_true, Int.reduceEq, if_false, Int.toNat_natCast, List.append_nil, e, List.take_length]
theorem appl_threeD {t : List Int} {p m : Nat} (h : p + m ≤ t.length) : appl (threeD t.length p m) t = t.take p ++ t.drop (p + m) := by
  unfold threeD
  have e : ((t.length : Int) - p - m).toNat = (t.drop (p + m)).length := by rw [List.length_drop]; omega
  simp only [appl, if_true, Int.reduceEq, if_false, Int.toNat_natCast, List.append_nil, List.drop_drop, e, List.take_length]
theorem okp_k {k n : Int} (hk : k = 1 ∨ k = 3) (h0 : 0 ≤ n) (h1 : n ≤ 200) : okPart ⟨k, n, []⟩ = true := by unfold okPart; simp [hk, h0, h1]
theorem ok_three {n p : Nat} {l : List Int} (h : p ≤ n) (hn : n + l.length ≤ 200) (hl : l.all okSign = true) : okOp (threeP n p l) = true ∧ fromOf (threeP n p l) = n := by
  have e1 : fromOf (threeP n p l) = n := by simp [threeP, fromOf, sumI, pFrom, pKeep, pDrop]; omega
  have e2 : toOf (threeP n p l) = n + l.length := by simp [threeP, toOf, sumI, pTo, pKeep, pPut]; omega
  refine ⟨?_, e1⟩
  unfold okOp okParts
  rw [e1, e2]
  unfold threeP
  simp only [List.all_cons, List.all_nil, okp_k (.inl rfl) (show (0 : Int) ≤ p by omega) (by omega), okp_k (.inl rfl) (show (0 : Int) ≤ (n : Int) - p by omega) (by omega), Bool.and_true, Bool.and_eq_true, decide_eq_true_eq]
  refine ⟨⟨⟨by simp, ?_⟩, by omega⟩, by omega⟩
  unfold okPart
  simp [hl]; omega
theorem ok_threeD {n p m : Nat} (h : p + m ≤ n) (hn : n ≤ 200) : okOp (threeD n p m) = true ∧ fromOf (threeD n p m) = n := by
  have e1 : fromOf (threeD n p m) = n := by simp [threeD, fromOf, sumI, pFrom, pKeep, pDrop]; omega
  have e2 : toOf (threeD n p m) = n - m := by simp [threeD, toOf, sumI, pTo, pKeep, pPut]; omega
  refine ⟨?_, e1⟩
  unfold okOp okParts
  rw [e1, e2]
  unfold threeD
  simp only [List.all_cons, List.all_nil, okp_k (.inl rfl) (show (0 : Int) ≤ p by omega) (by omega), okp_k (.inr rfl) (show (0 : Int) ≤ (m : Int) by omega) (by omega), okp_k (.inl rfl) (show (0 : Int) ≤ (n : Int) - p - m by omega) (by omega), Bool.and_true, Bool.and_eq_true, decide_eq_true_eq]
  exact ⟨⟨by simp, by omega⟩, by omega⟩
theorem shift_three {n p : Nat} {l : List Int} (h : p ≤ n) (hl : l ≠ []) {a : Int} (h0 : 0 ≤ a) (h1 : a ≤ n) : shiftL a true (nrm (threeP n p l)) 0 0 = if a < p then a else a + l.length := by
  have hl0 : 0 < l.length := List.length_pos_iff.2 hl
  by_cases c1 : (0 : Int) < p
  · by_cases c2 : (0 : Int) < (n : Int) - p
    · have e : nrm (threeP n p l) = [⟨1, p, []⟩, ⟨2, 0, l⟩, ⟨1, (n : Int) - p, []⟩] := by
        simp only [nrm, threeP, List.foldl_cons, List.foldl_nil, bPart, bKeep, bPut, flushL, addKeep, bNil, Int.reduceEq, if_false, if_true, c1, c2]
        simp [hl, el]
      rw [e]
      simp only [shiftL, if_true, Int.reduceEq, if_false]
      split
      · rw [if_pos (by omega)]; omega
      · rw [if_neg (by simp)]
        by_cases ha : a < 0 + (p : Int) + ((n : Int) - p)
        · rw [if_pos ha, if_neg (by omega)]; omega
        · rw [if_neg ha, if_neg (by omega)]; omega
    · have e : nrm (threeP n p l) = [⟨1, p, []⟩, ⟨2, 0, l⟩] := by
        simp only [nrm, threeP, List.foldl_cons, List.foldl_nil, bPart, bKeep, bPut, flushL, addKeep, bNil, Int.reduceEq, if_false, if_true, c1, c2]
        simp [hl]
      rw [e]
      simp only [shiftL, if_true, Int.reduceEq, if_false]
      split
      · rw [if_pos (by omega)]; omega
      · rw [if_neg (by simp), if_neg (by omega)]; omega
  · by_cases c2 : (0 : Int) < (n : Int) - p
    · have e : nrm (threeP n p l) = [⟨2, 0, l⟩, ⟨1, (n : Int) - p, []⟩] := by
        simp only [nrm, threeP, List.foldl_cons, List.foldl_nil, bPart, bKeep, bPut, flushL, addKeep, bNil, Int.reduceEq, if_false, if_true, c1, c2]
        simp [hl, el]
      rw [e]
      simp only [shiftL, if_true, Int.reduceEq, if_false]
      rw [if_neg (by simp)]
      by_cases ha : a < 0 + ((n : Int) - p)
      · rw [if_pos ha, if_neg (by omega)]; omega
      · rw [if_neg ha, if_neg (by omega)]; omega
    · have e : nrm (threeP n p l) = [⟨2, 0, l⟩] := by
        simp only [nrm, threeP, List.foldl_cons, List.foldl_nil, bPart, bKeep, bPut, flushL, addKeep, bNil, Int.reduceEq, if_false, if_true, c1, c2]
        simp [hl]
      rw [e]
      simp only [shiftL, if_true, Int.reduceEq, if_false]
      rw [if_neg (by simp), if_neg (by omega)]; omega
theorem put_facts {t l : List Int} {p : Nat} (ht : okText t = true) (h : p ≤ t.length) (hs : t.length + l.length ≤ 200) (hl : l.all okSign = true) (hne : l ≠ []) :
    putAt t.length p l = (nrm (threeP t.length p l), true) ∧ fits (nrm (threeP t.length p l)) t = true ∧ appl (nrm (threeP t.length p l)) t = t.take p ++ (l ++ t.drop p) ∧ (∀ a : Int, 0 ≤ a → a ≤ t.length → shift (nrm (threeP t.length p l)) a true = (if a < p then a else a + l.length, true)) := by
  obtain ⟨o1, o2⟩ := ok_three h hs hl
  have k := okOp_kinds o1
  have n1 := okOp_nrm o1
  refine ⟨?_, ?_, by rw [appl_nrm k, appl_three h], fun a h0 h1 => ?_⟩
  · unfold putAt; rw [if_pos ⟨⟨by omega, by omega⟩, o1⟩]
  · unfold fits; rw [n1, ht, from_nrm k, o2]; simp
  · unfold shift
    rw [if_pos ⟨n1, h0, by rw [from_nrm k, o2]; exact h1⟩, nrm_nrm k, shift_three h hne h0 h1]
theorem drop_facts {t : List Int} {p m : Nat} (ht : okText t = true) (h : p + m ≤ t.length) :
    dropAt t.length p m = (nrm (threeD t.length p m), true) ∧ fits (nrm (threeD t.length p m)) t = true ∧ appl (nrm (threeD t.length p m)) t = t.take p ++ t.drop (p + m) := by
  obtain ⟨o1, o2⟩ := ok_threeD h (okText_len ht)
  have k := okOp_kinds o1
  have n1 := okOp_nrm o1
  refine ⟨?_, ?_, by rw [appl_nrm k, appl_threeD h]⟩
  · unfold dropAt; rw [if_pos ⟨⟨⟨by omega, by omega⟩, by omega, by omega⟩, o1⟩]
  · unfold fits; rw [n1, ht, from_nrm k, o2]; simp

def rowSigns (t : List Int) (row : Int) : List Int × Bool := if (ends t row).2.2 = true then ((t.take (ends t row).2.1.toNat).drop (ends t row).1.toNat, true) else ([], false)

structure Put (t : List Int) (row : Int) (o d : List DPart) (u : List Int) : Prop where
  put : rowsPut t row [65, 66] = (o, true)
  fit : fits o t = true
  ap : appl o t = u
  sg : x_impl_RowSigns u row = some ([65, 66], true)
  cnt : (rows u).length = (rows t).length + 1
  dr : rowsDrop u row = (d, true)
  fit2 : fits d u = true
  ap2 : appl d u = t
  mv : ∀ k : Int, 0 ≤ k → k < (rows t).length → rowMoved t o k = (if row ≤ k ∨ (row = (rows t).length ∧ el (rows t) k.toNat = t.length) then k + 1 else k, true)

theorem signs_of {u a b c : List Int} {row : Int} (hu : okText u = true) (e : u = a ++ (b ++ c)) (hE : ends u row = ((a.length : Int), ((a.length + b.length : Nat) : Int), true)) : x_impl_RowSigns u row = some (b, true) := by
  have hl := okText_len hu
  have hlen : u.length = a.length + (b.length + c.length) := by rw [e]; simp
  unfold x_impl_RowSigns
  rw [i_Ends, hE, Option.bind_some]
  simp only [Bool.not_true, cd_F, Int.toNat_natCast]
  have hx : (u.take (a.length + b.length)).drop a.length = b := by
    rw [e, ← List.append_assoc, List.take_left' (by simp), List.drop_left' rfl]
  rw [xg_of ⟨by omega, by omega, by omega⟩, hx, i_copyInts (by omega)]
  rfl

theorem el_c (x : Int) (l : List Int) (i : Nat) : el (x :: l) (i + 1) = el l i := rfl
theorem el_appL {a b : List Int} {i : Nat} (h : i < a.length) : el (a ++ b) i = el a i := by rw [el_eq (by simp; omega), el_eq h, List.getElem_append_left h]
theorem el_appR {a b : List Int} {i : Nat} (h : a.length ≤ i) (h2 : i - a.length < b.length) : el (a ++ b) i = el b (i - a.length) := by rw [el_eq (by simp; omega), el_eq h2, List.getElem_append_right h]
theorem el_map (l : List Int) (m : Int) {i : Nat} (h : i < l.length) : el (l.map fun x => x + m) i = el l i + m := by rw [el_eq (by simpa using h), el_eq h, List.getElem_map]

/-- What is put in, and what its rows are. -/
structure Mid (t : List Int) (r p : Nat) (A B : List Int) : Prop where
  ok : okText t = true
  le : t.length ≤ 100
  sp : t = A ++ B
  la : A.length = p
  tk : t.take p = A
  dp : t.drop p = B
  st : el ((0 : Int) :: rowsL t 0) r = p
  rt : (0 : Int) :: rowsL t 0 = (0 :: rowsL A 0) ++ rowsL B p
  l0 : ((0 : Int) :: rowsL A 0).length = r + 1
  rl : r < ((0 : Int) :: rowsL t 0).length
theorem mid_base {t : List Int} (ht : okText t = true) (hs : t.length ≤ 100) {r : Nat} (hr : r < (rows t).length) : ∃ p A B, Mid t r p A B := by
  rw [rows_of ht] at hr
  obtain ⟨p, h1, h2, h3⟩ := row_cut t r hr
  have hsp : t = t.take p ++ t.drop p := (List.take_append_drop p t).symm
  have lA : (t.take p).length = p := by rw [List.length_take]; omega
  refine ⟨p, t.take p, t.drop p, ⟨ht, hs, hsp, lA, rfl, rfl, h1, ?_, by simp [h3], hr⟩⟩
  conv => lhs; rw [hsp, rowsL_app, lA]
  simp
theorem Mid.len {t A B : List Int} {r p : Nat} (h : Mid t r p A B) : t.length = p + B.length := by rw [h.sp, List.length_append, h.la]
theorem Mid.ut {t A B : List Int} {r p : Nat} (h : Mid t r p A B) : okText (A ++ ([65, 66, 10] ++ B)) = true := by
  have h1 := h.ok
  have h2 := h.le
  have h3 := h.len
  have h4 := h.la
  unfold okText at h1 ⊢
  rw [h.sp] at h1
  simp only [List.all_append, Bool.and_eq_true, decide_eq_true_eq, List.length_append] at h1 ⊢
  refine ⟨by simp; omega, h1.2.1, by decide, h1.2.2⟩
theorem Mid.ru {t A B : List Int} {r p : Nat} (h : Mid t r p A B) : (0 : Int) :: rowsL (A ++ ([65, 66, 10] ++ B)) 0 = (0 :: rowsL A 0) ++ (((p + 3 : Nat) : Int) :: (rowsL B p).map fun x => x + ((3 : Nat) : Int)) := by
  rw [rowsL_app, rowsL_app, h.la, Nat.zero_add]
  have e : rowsL [65, 66, 10] p = [((p + 3 : Nat) : Int)] := by simp [rowsL]; omega
  rw [e, show p + [(65 : Int), 66, 10].length = p + 3 by rfl, rowsL_plus]
  simp
theorem Mid.lu {t A B : List Int} {r p : Nat} (h : Mid t r p A B) : (A ++ ([65, 66, 10] ++ B)).length = t.length + 3 := by
  have h3 := h.len
  have h4 := h.la
  simp; omega
theorem Mid.rul {t A B : List Int} {r p : Nat} (h : Mid t r p A B) : ((0 : Int) :: rowsL (A ++ ([65, 66, 10] ++ B)) 0).length = ((0 : Int) :: rowsL t 0).length + 1 := by rw [h.ru, h.rt]; simp; omega
theorem Mid.u1 {t A B : List Int} {r p : Nat} (h : Mid t r p A B) : el ((0 : Int) :: rowsL (A ++ ([65, 66, 10] ++ B)) 0) r = p := by
  have h1 := h.st
  have l0 := h.l0
  rw [h.rt, el_appL (by omega)] at h1
  rw [h.ru, el_appL (by omega)]
  exact h1
theorem Mid.u2 {t A B : List Int} {r p : Nat} (h : Mid t r p A B) : el ((0 : Int) :: rowsL (A ++ ([65, 66, 10] ++ B)) 0) (r + 1) = p + 3 := by
  have l0 := h.l0
  rw [h.ru, el_appR (by omega) (by rw [l0, Nat.sub_self]; simp), l0, Nat.sub_self]
  show ((p + 3 : Nat) : Int) = _
  omega
theorem Mid.ends {t A B : List Int} {r p : Nat} (h : Mid t r p A B) : ends (A ++ ([65, 66, 10] ++ B)) (r : Int) = ((p : Int), ((p + 2 : Nat) : Int), true) := by
  have rul := h.rul
  have rl := h.rl
  have u1 := h.u1
  have u2 := h.u2
  have e := rows_of h.ut
  unfold Go.Proofs.Ytdfjkipdmeomdaa.ends
  rw [e, if_pos ⟨by omega, by omega⟩, if_pos (by omega), Int.toNat_natCast, show ((r : Int) + 1).toNat = r + 1 by omega, u1, u2]
  simp only [Prod.mk.injEq, and_true, true_and]; omega
theorem Mid.facts {t A B : List Int} {r p : Nat} (h : Mid t r p A B) : putAt t.length p [65, 66, 10] = (nrm (threeP t.length p [65, 66, 10]), true) ∧ fits (nrm (threeP t.length p [65, 66, 10])) t = true ∧ appl (nrm (threeP t.length p [65, 66, 10])) t = A ++ ([65, 66, 10] ++ B) ∧ (∀ a : Int, 0 ≤ a → a ≤ t.length → shift (nrm (threeP t.length p [65, 66, 10])) a true = (if a < p then a else a + 3, true)) := by
  have g := put_facts h.ok (p := p) (l := [65, 66, 10]) (by have := h.len; omega) (by have := h.le; simp; omega) (by decide) (by simp)
  rw [h.tk, h.dp] at g
  exact g
theorem Mid.mv {t A B : List Int} {r p : Nat} (h : Mid t r p A B) (k : Nat) (hk : k < ((0 : Int) :: rowsL t 0).length) : rowMoved t (nrm (threeP t.length p [65, 66, 10])) k = (if r ≤ k then (k : Int) + 1 else k, true) := by
  have hR := rows_of h.ok
  have hkt := rows_el t (i := k) (by rw [hR]; exact hk)
  rw [hR] at hkt
  have hEk : (Go.Proofs.Ytdfjkipdmeomdaa.ends t (k : Int)).1 = el ((0 : Int) :: rowsL t 0) k ∧ (Go.Proofs.Ytdfjkipdmeomdaa.ends t (k : Int)).2.2 = true := by
    unfold Go.Proofs.Ytdfjkipdmeomdaa.ends
    rw [hR, if_pos ⟨by omega, by omega⟩, Int.toNat_natCast]
    exact ⟨rfl, rfl⟩
  obtain ⟨_, p2, ap, p4⟩ := h.facts
  have hu := h.ut
  have rul := h.rul
  have lu := h.lu
  have u2 := h.u2
  have st := h.st
  have rl := h.rl
  have l0 := h.l0
  have inc := rows0_inc (A ++ ([65, 66, 10] ++ B))
  have inct := rows0_inc t
  unfold rowMoved
  rw [if_pos ⟨hEk.2, p2⟩, hEk.1, p4 _ hkt.1 hkt.2, ap]
  simp only
  by_cases hrk : r ≤ k
  · have hge : (p : Int) ≤ el ((0 : Int) :: rowsL t 0) k := by
      by_cases e : r = k
      · rw [← e, st]; exact Int.le_refl _
      · have := inc_el inct (i := r) (j := k) (by omega) hk; omega
    have hv : el ((0 : Int) :: rowsL (A ++ ([65, 66, 10] ++ B)) 0) (k + 1) = el ((0 : Int) :: rowsL t 0) k + 3 := by
      by_cases e : r = k
      · subst e; rw [u2, st]
      · have hk2 : k - (r + 1) < (rowsL B p).length := by rw [h.rt] at hk; simp only [List.length_append, l0] at hk; omega
        rw [h.ru, h.rt, el_appR (by omega) (by rw [l0]; simp; omega), el_appR (by omega) (by omega), l0, show k + 1 - (r + 1) = (k - (r + 1)) + 1 by omega, el_c, el_map _ _ hk2]
        rfl
    rw [if_neg (by omega), if_pos hrk, rowOf_at hu (j := k + 1) (by omega) (by rw [hv]; exact Int.le_refl _) (by omega) (fun i hi1 hi2 => by
      have := inc_el inc (i := k + 1) (j := i) hi1 hi2
      rw [hv] at this; exact this) (by omega)]
    simp
  · have hlt : el ((0 : Int) :: rowsL t 0) k < p := by have := inc_el inct (i := k) (j := r) (by omega) rl; rw [st] at this; exact this
    have hv : el ((0 : Int) :: rowsL (A ++ ([65, 66, 10] ++ B)) 0) k = el ((0 : Int) :: rowsL t 0) k := by rw [h.ru, h.rt, el_appL (by omega), el_appL (by omega)]
    rw [if_pos hlt, if_neg hrk, rowOf_at hu (j := k) (by omega) (by rw [hv]; exact Int.le_refl _) (by omega) (fun i hi1 hi2 => by
      have := inc_el inc (i := k) (j := i) hi1 hi2
      rw [hv] at this; exact this) hkt.1]
/-- A row before another one. -/
theorem put_mid {t : List Int} (ht : okText t = true) (hs : t.length ≤ 100) {r : Nat} (hr : r < (rows t).length) : ∃ o d u, Put t r o d u := by
  obtain ⟨p, A, B, h⟩ := mid_base ht hs hr
  have hR := rows_of ht
  have hu := h.ut
  have lu := h.lu
  have ln := h.len
  have la := h.la
  have hE := h.ends
  obtain ⟨p1, p2, p3, p4⟩ := h.facts
  obtain ⟨q1, q2, q3⟩ := drop_facts hu (p := p) (m := 3) (by omega)
  have pe : el (rows t) ((r : Int)).toNat = (p : Int) := by rw [hR, Int.toNat_natCast]; exact h.st
  refine ⟨_, _, _, ⟨?_, p2, p3, ?_, ?_, ?_, q2, ?_, ?_⟩⟩
  · unfold rowsPut
    rw [if_pos ⟨ht, by omega, by omega⟩, if_neg (by omega), pe]
    exact p1
  · exact signs_of (a := A) (b := [65, 66]) (c := [10] ++ B) hu (by simp) (by rw [hE, la]; rfl)
  · rw [rows_of hu, hR, h.rul]
  · unfold rowsDrop
    rw [hE]
    simp only [if_true]
    rw [if_pos (by omega), show ((p + 2 : Nat) : Int) + 1 - p = ((3 : Nat) : Int) by omega, q1]
  · rw [q3]
    have e1 : (A ++ ([65, 66, 10] ++ B)).take p = A := List.take_left' la
    have e2 : (A ++ ([65, 66, 10] ++ B)).drop (p + 3) = B := by rw [← List.append_assoc]; exact List.drop_left' (by simp; omega)
    rw [e1, e2, ← h.sp]
  · intro k k0 k1
    obtain ⟨k, rfl⟩ := Int.eq_ofNat_of_zero_le k0
    rw [h.mv k (by rw [hR] at k1; omega)]
    by_cases hrk : r ≤ k
    · rw [if_pos hrk, if_pos (.inl (by omega))]
    · rw [if_neg hrk, if_neg (by rintro (h | h) <;> omega)]

/-- A row behind the last one. -/
theorem end_ut {t : List Int} (ht : okText t = true) (hs : t.length ≤ 100) : okText (t ++ [10, 65, 66]) = true := by
  unfold okText at ht ⊢
  simp only [List.all_append, Bool.and_eq_true, decide_eq_true_eq, List.length_append] at ht ⊢
  refine ⟨by simp; omega, ht.2, by decide⟩
theorem end_ru (t : List Int) : (0 : Int) :: rowsL (t ++ [10, 65, 66]) 0 = (0 :: rowsL t 0) ++ [((t.length + 1 : Nat) : Int)] := by
  rw [rowsL_app, Nat.zero_add]
  simp [rowsL]
theorem end_rul (t : List Int) : ((0 : Int) :: rowsL (t ++ [10, 65, 66]) 0).length = ((0 : Int) :: rowsL t 0).length + 1 := by rw [end_ru]; simp
theorem end_u1 (t : List Int) : el ((0 : Int) :: rowsL (t ++ [10, 65, 66]) 0) ((0 : Int) :: rowsL t 0).length = ((t.length + 1 : Nat) : Int) := by
  rw [end_ru, el_appR (Nat.le_refl _) (by simp), Nat.sub_self]; rfl
theorem end_ends {t : List Int} (ht : okText t = true) (hs : t.length ≤ 100) : ends (t ++ [10, 65, 66]) ((rows t).length : Int) = (((t.length + 1 : Nat) : Int), ((t.length + 3 : Nat) : Int), true) := by
  have rul := end_rul t
  have u1 := end_u1 t
  have e := rows_of (end_ut ht hs)
  unfold ends
  rw [e, rows_of ht, if_pos ⟨by omega, by omega⟩, if_neg (by omega), Int.toNat_natCast, u1]
  simp
theorem end_mv {t : List Int} (ht : okText t = true) (hs : t.length ≤ 100) (k : Nat) (hk : k < ((0 : Int) :: rowsL t 0).length) {o : List DPart} (p2 : fits o t = true) (ap : appl o t = t ++ [10, 65, 66]) (p4 : ∀ a : Int, 0 ≤ a → a ≤ t.length → shift o a true = (if a < t.length then a else a + 3, true)) :
    rowMoved t o k = (if el ((0 : Int) :: rowsL t 0) k = t.length then (k : Int) + 1 else k, true) := by
  have hR := rows_of ht
  have hkt := rows_el t (i := k) (by rw [hR]; exact hk)
  rw [hR] at hkt
  have hEk : (ends t (k : Int)).1 = el ((0 : Int) :: rowsL t 0) k ∧ (ends t (k : Int)).2.2 = true := by
    unfold ends
    rw [hR, if_pos ⟨by omega, by omega⟩, Int.toNat_natCast]
    exact ⟨rfl, rfl⟩
  have hu := end_ut ht hs
  have rul := end_rul t
  have u1 := end_u1 t
  have lu : (t ++ [10, 65, 66]).length = t.length + 3 := by simp
  have inct := rows0_inc t
  have inc := rows0_inc (t ++ [10, 65, 66])
  unfold rowMoved
  rw [if_pos ⟨hEk.2, p2⟩, hEk.1, p4 _ hkt.1 hkt.2, ap]
  simp only
  by_cases hrk : el ((0 : Int) :: rowsL t 0) k = t.length
  · have hlast : k + 1 = ((0 : Int) :: rowsL t 0).length := by
      by_cases e : k + 1 < ((0 : Int) :: rowsL t 0).length
      · have h1 := inc_el inct (i := k) (j := k + 1) (by omega) e
        have h2 := rows_el t (i := k + 1) (by rw [hR]; exact e)
        rw [hR] at h2
        omega
      · omega
    rw [if_neg (by omega), if_pos hrk, rowOf_at hu (j := k + 1) (by omega) (by rw [hlast, u1]; omega) (by omega) (fun i hi1 hi2 => by omega) (by omega)]
    simp
  · have hv : el ((0 : Int) :: rowsL (t ++ [10, 65, 66]) 0) k = el ((0 : Int) :: rowsL t 0) k := by rw [end_ru, el_appL hk]
    rw [if_pos (by omega), if_neg hrk, rowOf_at hu (j := k) (by omega) (by rw [hv]; exact Int.le_refl _) (by omega) (fun i hi1 hi2 => by
      have := inc_el inc (i := k) (j := i) hi1 hi2
      rw [hv] at this; exact this) hkt.1]
theorem put_end {t : List Int} (ht : okText t = true) (hs : t.length ≤ 100) : ∃ o d u, Put t (rows t).length o d u := by
  have hR := rows_of ht
  have hu := end_ut ht hs
  have hE := end_ends ht hs
  have lu : (t ++ [10, 65, 66]).length = t.length + 3 := by simp
  obtain ⟨p1, p2, p3, p4⟩ := put_facts ht (Nat.le_refl _) (l := [10, 65, 66]) (by simp; omega) (by decide) (by simp)
  obtain ⟨q1, q2, q3⟩ := drop_facts hu (p := t.length) (m := 3) (by omega)
  have ap : appl (nrm (threeP t.length t.length [10, 65, 66])) t = t ++ [10, 65, 66] := by rw [p3, List.take_length, List.drop_length, List.append_nil]
  refine ⟨_, _, _, ⟨?_, p2, ap, ?_, ?_, ?_, q2, ?_, ?_⟩⟩
  · unfold rowsPut
    rw [if_pos ⟨ht, by omega, by omega⟩, if_pos rfl]
    exact p1
  · exact signs_of (a := t ++ [10]) (b := [65, 66]) (c := []) hu (by simp) (by rw [hE]; simp; omega)
  · rw [rows_of hu, hR, end_rul]
  · unfold rowsDrop
    rw [hE]
    simp only [if_true]
    rw [if_neg (by omega), if_pos (by omega), show ((t.length + 1 : Nat) : Int) - 1 = (t.length : Int) by omega, show ((t.length + 3 : Nat) : Int) - (t.length : Int) = ((3 : Nat) : Int) by omega, q1]
  · rw [q3, List.take_left' rfl, List.drop_eq_nil_of_le (by omega), List.append_nil]
  · intro k k0 k1
    obtain ⟨k, rfl⟩ := Int.eq_ofNat_of_zero_le k0
    have hkr : el (rows t) ((k : Int)).toNat = el ((0 : Int) :: rowsL t 0) k := by rw [hR, Int.toNat_natCast]
    rw [end_mv ht hs k (by rw [hR] at k1; omega) p2 ap p4, hkr]
    by_cases hrk : el ((0 : Int) :: rowsL t 0) k = t.length
    · rw [if_pos hrk, if_pos (.inr ⟨rfl, hrk⟩)]
    · rw [if_neg hrk, if_neg (by rintro (h | h) <;> omega)]

theorem s_MakeRows (code : List UInt8) (hl : code.length ≤ 1048580) : ∃ t, x_spec_MakeRows code = some t ∧ t.length ≤ 13 ∧ okText t = true := by
  unfold x_spec_MakeRows
  obtain ⟨c, h2, h3, _⟩ := s_New code hl
  obtain ⟨n, d, b1, b2, b3⟩ := s_Below c 14 h3
  rw [h2, Option.bind_some, b1, Option.bind_some]
  obtain ⟨y, g1, g2, g3⟩ := iter_ex (f := x_spec_MakeRows_f0) (fun s => (0 ≤ s.2.1 ∧ (s.1.length : Int) + s.2.1 ≤ 13) ∧ s.1.all okSign = true ∧ cur ⟨s.2.2.1, s.2.2.2.1, s.2.2.2.2⟩) (fun s => s.2.1.toNat) (fun y => y.length ≤ 13 ∧ y.all okSign = true) (fun s hP => by
    obtain ⟨t, k, b, i, j⟩ := s
    obtain ⟨p1, p2, p3⟩ := hP
    simp only at p1 p2 p3 ⊢
    unfold x_spec_MakeRows_f0 x_spec_MakeRows_b0
    simp only
    by_cases hk : 0 < k
    · obtain ⟨m, e, q1, q2, q3⟩ := s_Pick ⟨b, i, j⟩ [10, 97, 98, 99, 97] p3 (by decide)
      rw [cd_t hk, q1, Option.bind_some, xg_of (by omega), xg_I (by omega) (by omega)]
      have hm : okSign m = true := by
        have : ∀ x ∈ [(10 : Int), 97, 98, 99, 97], okSign x = true := by decide
        exact this m q2
      refine .inl ⟨_, rfl, ⟨⟨by simp only; omega, by simp; omega⟩, ?_, q3⟩, by simp only; omega⟩
      simp only [List.all_append, p2, List.all_cons, hm, List.all_nil]; rfl
    · rw [cd_f hk]
      exact .inr ⟨_, rfl, by omega, p2⟩) ([], n, d.b, d.i, d.h) ⟨⟨b2.1, by simp; omega⟩, rfl, b3⟩
  rw [g1]
  exact ⟨_, rfl, g2, drawn_text (by omega) g3⟩

theorem math_FnRowOps (code : List UInt8) (_ : wfL wfY code) : x_laws_FnRowOps code = some true := by
  unfold x_laws_FnRowOps
  by_cases hl : (1048576 : Int) < (code.length : Int)
  · rw [cd_t hl]
  rw [cd_f hl]
  obtain ⟨t, t1, t2, t3⟩ := s_MakeRows code (by omega)
  have hr1 : 1 ≤ (rows t).length ∧ (rows t).length ≤ 14 := by
    have := (rows_bd t).1
    refine ⟨?_, by omega⟩
    rw [rows_of t3]; simp
  obtain ⟨row, r1, r2, r3⟩ := s_MakeNum code ((rows t).length + 1) (by omega)
  obtain ⟨k, k1, k2, k3⟩ := s_MakeNum code (rows t).length (by omega)
  have hk : k < (rows t).length := by omega
  obtain ⟨o, d, u, P⟩ : ∃ o d u, Put t row o d u := by
    by_cases e : row = (rows t).length
    · rw [e]; exact put_end t3 (by omega)
    · obtain ⟨r, rfl⟩ := Int.eq_ofNat_of_zero_le r2
      exact put_mid t3 (by omega) (by omega)
  have hmv := P.mv k k2 hk
  rw [t1, Option.bind_some, s_RowCount, Option.bind_some, xg_I (by omega) (by omega), r1, Option.bind_some, i_RowsPut _ _ _ (by simp), P.put, Option.bind_some]
  simp only
  rw [i_Apply, if_pos P.fit, P.ap, Option.bind_some]
  simp only
  rw [P.sg, Option.bind_some, i_RowsDrop, P.dr, Option.bind_some]
  simp only
  rw [i_Apply, if_pos P.fit2, P.ap2, Option.bind_some]
  simp only [Bool.not_true, cd_F, Option.bind_some]
  rw [i_SignsSame, decide_eq_true rfl, Option.bind_some]
  simp only [Bool.not_true, cd_F, Option.bind_some]
  rw [i_RowCount, Option.bind_some, i_RowCount, Option.bind_some, xg_I (by omega) (by omega), P.cnt, decide_eq_true (by omega)]
  simp only [Bool.not_true, Option.bind_some, cd_F]
  rw [k1, Option.bind_some, i_RowMoved, hmv, Option.bind_some]
  simp only
  by_cases c1 : row ≤ k
  · rw [cd_t c1, Option.bind_some, cd_T, xg_I (by omega) (by omega), if_pos (.inl c1)]
    simp only [cd_T, Option.bind_some]
    rw [i_SignsSame, decide_eq_true rfl]; rfl
  · rw [cd_f c1]
    by_cases c2 : row = ((rows t).length : Int)
    · have e : x_spec_Rows t = some (rows t) := s_Rows t
      rw [cd_t c2, e, Option.bind_some, xg_of ⟨k2, by omega⟩, Option.bind_some, Option.bind_some]
      by_cases c3 : el (rows t) k.toNat = (t.length : Int)
      · rw [decide_eq_true c3, cd_T, xg_I (by omega) (by omega), if_pos (.inr ⟨c2, c3⟩)]
        simp only [cd_T, Option.bind_some]
        rw [i_SignsSame, decide_eq_true rfl]; rfl
      · rw [decide_eq_false c3, cd_F, if_neg (fun h => h.elim (fun h => by omega) (fun h => c3 h.2))]
        simp only [cd_T, Option.bind_some]
        rw [i_SignsSame, decide_eq_true rfl]; rfl
    · rw [cd_f c2, Option.bind_some, Option.bind_some, cd_F, if_neg (by rintro (h | h) <;> omega)]
      simp only [cd_T, Option.bind_some]
      rw [i_SignsSame, decide_eq_true rfl]; rfl
end Go.Proofs.Ytdfjkipdmeomdaa
