/- Marks: one left out, one put in. No condition. -/
import Derived.Test.YtdfjkipdmeomdaaDoorMm
namespace Go.Proofs.YtdfjkipdmeomdaaDoor
def insM (m : DMark) : List DMark → List DMark
  | [] => [m]
  | x :: r => bif decide (m.id < x.id) then m :: x :: r else x :: insM m r
def dropM (l : List DMark) (i : Int) : List DMark := l.filter fun x => !decide (x.id = i)
theorem dropM_len (l : List DMark) (i : Int) : (dropM l i).length ≤ l.length := List.length_filter_le ..
theorem dropM_ne {l : List DMark} {i : Int} : ∀ x ∈ dropM l i, x.id ≠ i := fun x hx => by
  have := (List.mem_filter.1 hx).2
  simpa using this
theorem drop_loop {f : Nat → List DMark → Option (Lr (List DMark) (List DMark))} (l : List DMark) (i : Int) (hl : l.length ≤ 1048576) (hf : ∀ k s, k < l.length → s.length ≤ k → f k s = some (.go (s ++ bif !decide ((el l k).id = i) then [el l k] else []))) : eachN f (fun (s : List DMark) => (s : List DMark)) l.length 0 [] = some (dropM l i) := by
  have h := each_run (F := f) (e := fun (s : List DMark) => s) l (fun r k s => s.length ≤ k) (fun r _ s => s ++ dropM r i) (fun s _ => by simp [dropM]) (fun x r k s hk hx hP => .inl ⟨_, hf k s hk hP, by
    rw [hx]
    cases (!decide (x.id = i)) <;> simp <;> omega, by
    rw [hx]
    unfold dropM
    rw [List.filter_cons]
    cases (!decide (x.id = i)) <;> simp⟩) [] (by simp)
  simpa using h
theorem i_MarkDrop (l : List DMark) (i : Int) (hl : l.length ≤ 1048576) : x_impl_MarkDrop l i = some (dropM l i) := by
  unfold x_impl_MarkDrop
  rw [drop_loop l i hl fun k s hk hs => by
    unfold x_impl_MarkDrop_f0 x_impl_MarkDrop_b0
    cases (!decide ((el l k).id = i)) with
    | false => simp
    | true => simp only [cond_true]; rw [xg_of (by omega)]]
  rfl
theorem s_MarkDrop (l : List DMark) (i : Int) (hl : l.length ≤ 1048576) : x_spec_MarkDrop l i = some (dropM l i) := by
  unfold x_spec_MarkDrop
  rw [drop_loop l i hl fun k s hk hs => by
    unfold x_spec_MarkDrop_f0 x_spec_MarkDrop_b0
    cases (!decide ((el l k).id = i)) with
    | false => simp
    | true => simp only [cond_true]; rw [xg_of (by omega)]]
  rfl
def posM (i : Int) : List DMark → Nat
  | [] => 0
  | x :: r => bif decide (x.id < i) then posM i r + 1 else 0
theorem posM_le (i : Int) : ∀ l, posM i l ≤ l.length
  | [] => Nat.le_refl _
  | x :: r => by
    have := posM_le i r
    unfold posM
    cases decide (x.id < i) <;> simp <;> omega
theorem insM_pos (m : DMark) : ∀ l : List DMark, (∀ x ∈ l, x.id ≠ m.id) → l.take (posM m.id l) ++ [m] ++ l.drop (posM m.id l) = insM m l
  | [], _ => rfl
  | x :: r, h => by
    have h1 := h x (List.mem_cons_self ..)
    have ih := insM_pos m r fun y hy => h y (List.mem_cons_of_mem _ hy)
    unfold posM insM
    by_cases hc : x.id < m.id
    · rw [decide_eq_true hc, decide_eq_false (p := m.id < x.id) (by omega)]
      simp only [cond_true, cond_false, List.take_succ_cons, List.drop_succ_cons, List.cons_append]
      rw [ih]
    · rw [decide_eq_false hc, decide_eq_true (p := m.id < x.id) (by omega)]
      rfl
theorem pos_iter (l : List DMark) (i : Int) (hl : l.length ≤ 1048576) : iter (x_impl_MarkAdd_f0 l i) 0 = some (posM i l : Int) := by
  have h := iter_go (f := x_impl_MarkAdd_f0 l i) (fun s : Int => ∃ k : Nat, s = k ∧ k ≤ l.length) (fun s => (l.length - s).toNat) (fun s => s + (posM i (l.drop s.toNat) : Int)) (fun s ⟨k, hk, hkl⟩ => by
    subst hk
    unfold x_impl_MarkAdd_f0 x_impl_MarkAdd_b0
    rw [Int.toNat_natCast]
    by_cases hc : k < l.length
    · rw [cd_t (by omega), xg_of ⟨by omega, by omega⟩, Option.bind_some]
      have hd : l.drop k = el l k :: l.drop (k + 1) := drop_el hc
      rw [hd, posM]
      by_cases h2 : (el l k).id < i
      · rw [decide_eq_true h2, cond_true, xg_I (by omega) (by omega), cond_true]
        refine .inl ⟨_, rfl, ⟨k + 1, by omega, by omega⟩, by omega, ?_⟩
        rw [show ((k : Int) + 1).toNat = k + 1 by omega]
        omega
      · rw [decide_eq_false h2, cond_false, cond_false]
        exact .inr (by simp)
    · rw [cd_f (by omega), Option.bind_some, cond_false]
      have hd : l.drop k = [] := List.drop_of_length_le (by omega)
      rw [hd]
      exact .inr (by simp [posM])) 0 ⟨0, rfl, Nat.zero_le _⟩
  simpa using h
theorem ins_loop {f : Nat → List DMark × Bool → Option (Lr (List DMark × Bool) (List DMark × Bool))} (l : List DMark) (m : DMark) (hf : ∀ k s, k < l.length → s.1.length ≤ k + 1 → f k s = some (.go (bif !s.2 && decide (m.id < (el l k).id) then ((s.1 ++ [m]) ++ [el l k], true) else (s.1 ++ [el l k], s.2)))) :
    ∃ y, eachN f (fun (s : List DMark × Bool) => ((s.1, s.2) : List DMark × Bool)) l.length 0 ([], false) = some y ∧ y.1.length ≤ l.length + 1 ∧ (bif y.2 then y.1 else y.1 ++ [m]) = insM m l := by
  have h := each_ex (F := f) (e := fun (s : List DMark × Bool) => ((s.1, s.2) : List DMark × Bool)) l (fun _ k s => s.1.length ≤ k + (bif s.2 then 1 else 0)) (fun r _ s y => y.1.length ≤ l.length + 1 ∧ (bif y.2 then y.1 else y.1 ++ [m]) = s.1 ++ (bif s.2 then r else insM m r)) (fun s hP => by
      obtain ⟨a, b⟩ := s
      cases b <;> simp [insM] at hP ⊢ <;> omega) (fun x r k s hk hx hP => by
      obtain ⟨a, b⟩ := s
      refine .inl ⟨_, hf k _ hk (by cases b <;> simp at hP ⊢ <;> omega), ?_, ?_⟩
      · rw [hx]
        cases b <;> cases decide (m.id < x.id) <;> simp at hP ⊢ <;> omega
      · rw [hx]
        intro y hy
        refine ⟨hy.1, hy.2.trans ?_⟩
        cases b with
        | true => simp
        | false =>
          simp only [insM]
          cases decide (m.id < x.id) <;> simp) ([], false) (by simp)
  simpa using h
def markAdd (l : List DMark) (n : Int) (m : DMark) : List DMark × Bool := bif okMarks l n && okMarks (insM m (dropM l m.id)) n then (insM m (dropM l m.id), true) else ([], false)
theorem insM_len (m : DMark) : ∀ l, (insM m l).length = l.length + 1
  | [] => rfl
  | x :: r => by
    have := insM_len m r
    unfold insM
    cases decide (m.id < x.id) <;> simp [this]
theorem i_MarkAdd (l : List DMark) (n i a b : Int) (hl : l.length ≤ 1048576) : x_impl_MarkAdd l n i a b = some (markAdd l n ⟨i, a, b⟩) := by
  unfold x_impl_MarkAdd markAdd
  rw [i_MarksOk l n (by omega), Option.bind_some]
  cases h : okMarks l n with
  | false => rfl
  | true =>
    have h12 := okMarks_len h
    have hd := dropM_len l i
    have hp := posM_le i (dropM l i)
    rw [Bool.not_true, cond_false, i_MarkDrop l i hl, Option.bind_some, pos_iter _ i (by omega), Option.bind_some]
    have e : x_insertMark (dropM l i) (posM i (dropM l i) : Int) [(⟨i, a, b⟩ : DMark)] = some (insM ⟨i, a, b⟩ (dropM l i)) := by
      unfold x_insertMark
      rw [if_pos ⟨by omega, by omega, rfl, by omega⟩, Int.toNat_natCast, ← insM_pos ⟨i, a, b⟩ _ dropM_ne]
    have hi := insM_len ⟨i, a, b⟩ (dropM l i)
    rw [e, Option.bind_some, i_MarksOk _ n (by omega), Option.bind_some, Bool.true_and]
    cases okMarks (insM ⟨i, a, b⟩ (dropM l i)) n <;> rfl
theorem s_MarkAdd (l : List DMark) (n i a b : Int) (hl : l.length ≤ 1048576) : x_spec_MarkAdd l n i a b = some (markAdd l n ⟨i, a, b⟩) := by
  unfold x_spec_MarkAdd markAdd
  have hd := dropM_len l i
  obtain ⟨y, hy, y1, y2⟩ := ins_loop (f := x_spec_MarkAdd_f0 i a b (dropM l i)) (dropM l i) ⟨i, a, b⟩ fun k s hk hs => by
    unfold x_spec_MarkAdd_f0 x_spec_MarkAdd_b0
    have g1 : (s.1 ++ [(⟨i, a, b⟩ : DMark)]).length < 1099511627776 := by simp; omega
    rw [xg_of (p := s.1.length < 1099511627776) (by omega), xg_of (p := s.1.length < 1099511627776) (by omega), xg_of g1]
    cases s.2 <;> cases decide (i < (el (dropM l i) k).id) <;> rfl
  rw [s_MarkDrop l i hl, Option.bind_some, hy, Option.bind_some]
  have hi := insM_len ⟨i, a, b⟩ (dropM l i)
  have key : ∀ z : List DMark, z = insM ⟨i, a, b⟩ (dropM l i) → (Option.bind (x_spec_MarksOk l n) fun r146 => Option.bind (bif !r146 then (some true) else (Option.bind (x_spec_MarksOk z n) fun r163 => some (!r163))) fun c152 => bif c152 then (some ([], false)) else (some (z, true))) = some (bif okMarks l n && okMarks (insM ⟨i, a, b⟩ (dropM l i)) n then (insM ⟨i, a, b⟩ (dropM l i), true) else ([], false)) := fun z hz => by
    subst hz
    rw [s_MarksOk l n (by omega), Option.bind_some, s_MarksOk _ n (by omega)]
    cases okMarks l n <;> cases okMarks (insM ⟨i, a, b⟩ (dropM l i)) n <;> rfl
  cases hb : y.2 with
  | false =>
    rw [hb, cond_false] at y2
    rw [Bool.not_false, cond_true, xg_of (by omega)]
    exact key _ y2
  | true =>
    rw [hb, cond_true] at y2
    rw [Bool.not_true, cond_false]
    exact key _ y2
theorem lenM' (l : List DMark) : lenL szDMark l = l.length := lenL_z (fun _ => rfl) l
theorem ex_FnExactMarkAdd (l : List DMark) (n i a b : Int) (_ : wfL wfDMark l) (_ : wfI n) (_ : wfI i) (_ : wfI a) (_ : wfI b) (h : lenL szDMark l ≤ 1048576) : ∃ r, x_spec_MarkAdd l n i a b = some r ∧ x_impl_MarkAdd l n i a b = some r ∧ lenL szDMark r.1 ≤ 1000000000 := by
  rw [lenM'] at h
  refine ⟨_, s_MarkAdd l n i a b (by omega), i_MarkAdd l n i a b (by omega), ?_⟩
  have hd := dropM_len l i
  have hi := insM_len ⟨i, a, b⟩ (dropM l i)
  rw [lenM']
  unfold markAdd
  cases okMarks l n && okMarks (insM ⟨i, a, b⟩ (dropM l i)) n
  · simp
  · simp only [cond_true]; omega
end Go.Proofs.YtdfjkipdmeomdaaDoor
