/- Marks. No condition. -/
import Derived.Test.YtdfjkipdmeomdaaDoorMk
import Derived.Test.YtdfjkipdmeomdaaDoorTM
namespace Go.Proofs.YtdfjkipdmeomdaaDoor
def prevOk : Option Int → Int → Bool
  | none, _ => true
  | some p, i => decide (p < i)
def marksL (n : Int) : List DMark → Option Int → Bool
  | [], _ => true
  | m :: r, p => ((decide (1 ≤ m.id ∧ m.id ≤ 1000000000) && prevOk p m.id) && decide (0 ≤ m.from_ ∧ m.from_ ≤ m.to ∧ m.to ≤ n)) && marksL n r (some m.id)
def okMarks (l : List DMark) (n : Int) : Bool := (decide (0 ≤ n ∧ n ≤ 200) && decide (l.length ≤ 12)) && marksL n l none
theorem markAt (l : List DMark) (n : Int) {k : Nat} {x : DMark} {r : List DMark} (hl : l.length ≤ 1099511627776) (hk : k < l.length) :
    (bif decide ((0 : Int) < (k : Int)) then (xg (inI ((k : Int) - 1)) <| xg (0 ≤ ((k : Int) - 1) ∧ ((k : Int) - 1) < (l.length : Int)) <| some (decide ((x.id) ≤ ((el l (((k : Int) - 1).toNat)).id)))) else (some false)) = some (!prevOk (if k = 0 then none else some (el l (k - 1)).id) x.id) := by
  cases k with
  | zero => rfl
  | succ k =>
    rw [cd_t (by omega), xg_I (by omega) (by omega), xg_of ⟨by omega, by omega⟩, if_neg (by omega), show (((k + 1 : Nat) : Int) - 1).toNat = k + 1 - 1 by omega, prevOk]
    congr 1
    rw [← decide_not]
    exact decide_eq_decide.2 (by omega)
theorem i_marks_loop (l : List DMark) (n : Int) (hl : l.length ≤ 1099511627776) : eachN (x_impl_MarksOk_f0 l n) (fun (_ : Unit) => (Sum.inl () : Sum Unit Unit)) l.length 0 () = some (bif marksL n l none then Sum.inl () else Sum.inr ()) := by
  have h := each_run (F := x_impl_MarksOk_f0 l n) (e := fun _ => (Sum.inl () : Sum Unit Unit)) l (fun _ _ _ => True) (fun r k _ => bif marksL n r (if k = 0 then none else some (el l (k - 1)).id) then Sum.inl () else Sum.inr ()) (fun _ _ => rfl) (fun x r k s hk hx _ => by
    unfold x_impl_MarksOk_f0 x_impl_MarksOk_b0
    rw [hx]
    simp only [i_within, Option.bind_some, markAt l n (x := x) (r := r) hl hk, cs_, co_]
    simp only [marksL]
    have e1 : (if k + 1 = 0 then none else some (el l (k + 1 - 1)).id) = some x.id := by rw [if_neg (by omega), Nat.add_sub_cancel, hx]
    rw [e1]
    generalize prevOk (if k = 0 then none else some (el l (k - 1)).id) x.id = q
    generalize marksL n r (some x.id) = z
    by_cases h1 : 1 ≤ x.id ∧ x.id ≤ 1000000000
    · cases q with
      | false => exact .inr (by simp [h1])
      | true =>
        by_cases h2 : 0 ≤ x.from_ ∧ x.from_ ≤ x.to ∧ x.to ≤ n
        · refine .inl ⟨(), ?_, trivial, by simp [h1, h2]⟩
          rw [decide_eq_true h1, decide_eq_false (p := x.from_ < 0) (by omega), decide_eq_false (p := x.to < x.from_) (by omega), decide_eq_false (p := n < x.to) (by omega)]; rfl
        · refine .inr ?_
          rw [decide_eq_true h1, decide_eq_false h2]
          by_cases g1 : x.from_ < 0
          · simp [g1]
          · by_cases g2 : x.to < x.from_
            · simp [g1, g2]
            · have g3 : n < x.to := by omega
              simp [g1, g2, g3]
    · exact .inr (by rw [decide_eq_false h1]; rfl)) () trivial
  simpa using h
theorem s_marks_loop (l : List DMark) (n : Int) (hl : l.length ≤ 1099511627776) : eachN (x_spec_MarksOk_f0 n l) (fun (_ : Unit) => (Sum.inl () : Sum Unit Unit)) l.length 0 () = some (bif marksL n l none then Sum.inl () else Sum.inr ()) := by
  have h := each_run (F := x_spec_MarksOk_f0 n l) (e := fun _ => (Sum.inl () : Sum Unit Unit)) l (fun _ _ _ => True) (fun r k _ => bif marksL n r (if k = 0 then none else some (el l (k - 1)).id) then Sum.inl () else Sum.inr ()) (fun _ _ => rfl) (fun x r k s hk hx _ => by
    unfold x_spec_MarksOk_f0 x_spec_MarksOk_b0
    rw [hx]
    simp only [s_In, Option.bind_some, markAt l n (x := x) (r := r) hl hk, cs_, co_]
    simp only [marksL]
    have e1 : (if k + 1 = 0 then none else some (el l (k + 1 - 1)).id) = some x.id := by rw [if_neg (by omega), Nat.add_sub_cancel, hx]
    rw [e1]
    generalize prevOk (if k = 0 then none else some (el l (k - 1)).id) x.id = q
    generalize marksL n r (some x.id) = z
    by_cases h1 : 1 ≤ x.id ∧ x.id ≤ 1000000000
    · cases q with
      | false =>
        refine .inr ?_
        rw [decide_eq_true h1]
        simp
      | true =>
        by_cases h2 : 0 ≤ x.from_ ∧ x.from_ ≤ x.to ∧ x.to ≤ n
        · refine .inl ⟨(), ?_, trivial, by simp [h1, h2]⟩
          rw [decide_eq_true h1, decide_eq_false (p := x.from_ < 0) (by omega), decide_eq_false (p := x.to < x.from_) (by omega), decide_eq_false (p := n < x.to) (by omega)]; rfl
        · refine .inr ?_
          rw [decide_eq_true h1, decide_eq_false h2]
          by_cases g1 : x.from_ < 0
          · simp [g1]
          · by_cases g2 : x.to < x.from_
            · simp [g1, g2]
            · have g3 : n < x.to := by omega
              simp [g1, g2, g3]
    · exact .inr (by rw [decide_eq_false h1]; rfl)) () trivial
  simpa using h
theorem i_MarksOk (l : List DMark) (n : Int) (hl : l.length ≤ 1099511627776) : x_impl_MarksOk l n = some (okMarks l n) := by
  unfold x_impl_MarksOk okMarks
  simp only [i_within, Option.bind_some, cs_, co_]
  by_cases h1 : 0 ≤ n ∧ n ≤ 200
  · by_cases h2 : l.length ≤ 12
    · rw [decide_eq_true h1, decide_eq_true h2, decide_eq_false (p := (12 : Int) < (l.length : Int)) (by omega), i_marks_loop l n hl]
      cases marksL n l none <;> rfl
    · rw [decide_eq_true h1, decide_eq_false h2, decide_eq_true (p := (12 : Int) < (l.length : Int)) (by omega)]; rfl
  · rw [decide_eq_false h1]; rfl
theorem s_MarksOk (l : List DMark) (n : Int) (hl : l.length ≤ 1099511627776) : x_spec_MarksOk l n = some (okMarks l n) := by
  unfold x_spec_MarksOk okMarks
  rw [s_marks_loop l n hl]
  simp only [s_In, Option.bind_some, cs_, ca_]
  have e : decide ((l.length : Int) ≤ 12) = decide (l.length ≤ 12) := decide_eq_decide.2 (by omega)
  rw [e]
  cases marksL n l none <;> simp
theorem okMarks_len {l : List DMark} {n : Int} (h : okMarks l n = true) : l.length ≤ 12 := by
  unfold okMarks at h
  simp only [Bool.and_eq_true, decide_eq_true_eq] at h
  exact h.1.2
def mvM (o : List DPart) (m : DMark) : DMark := ⟨m.id, min (shift o m.from_ true).1 (shift o m.to false).1, (shift o m.to false).1⟩
def marksMove (l : List DMark) (o : List DPart) : List DMark × Bool := if okOp o = true ∧ okMarks l (fromOf o) = true then (l.map (mvM o), true) else ([], false)
theorem move_loop {f : Nat → List DMark → Option (Lr (List DMark) (List DMark))} (l : List DMark) (o : List DPart) (hl : l.length ≤ 12) (hf : ∀ k s, k < l.length → s.length ≤ k → f k s = some (.go (s ++ [mvM o (el l k)]))) : eachN f (fun (s : List DMark) => (s : List DMark)) l.length 0 [] = some (l.map (mvM o)) := by
  have h := each_run (F := f) (e := fun (s : List DMark) => s) l (fun r k s => s.length ≤ k) (fun r _ s => s ++ r.map (mvM o)) (fun s _ => by simp) (fun x r k s hk hx hP => .inl ⟨_, hf k s hk hP, by simp; omega, by simp [hx]⟩) [] (by simp)
  simpa using h
theorem i_MarksMove (l : List DMark) (o : List DPart) (hl : l.length ≤ 1099511627776) : x_impl_MarksMove l o = some (marksMove l o) := by
  unfold x_impl_MarksMove marksMove
  simp only [i_OpOk, i_OpFrom, Option.bind_some, i_MarksOk l _ hl, cs_, co_]
  cases h : okOp o with
  | false => simp
  | true =>
    rw [okOp_parts h, if_pos rfl]
    cases hm : okMarks l (fromOf o) with
    | false => simp
    | true =>
      have := okMarks_len hm
      simp only [Bool.not_true, Bool.false_or, cond_false]
      rw [move_loop l o this (fun k s hk hs => by
        unfold x_impl_MarksMove_f0 x_impl_MarksMove_b0
        rw [i_Shift, Option.bind_some, i_Shift, Option.bind_some, xg_of (by omega)]; rfl)]
      rfl
end Go.Proofs.YtdfjkipdmeomdaaDoor
