/- Many changes made at once, merged. No condition. -/
import Derived.Test.YthfkcpdechjmnaaMu
import Derived.Test.YthfkcpdechjmnaaGM
namespace Go.Proofs.Ythfkcpdechjmnaa

def keeping (n : Int) : List DPart := if 1 ≤ n ∧ n ≤ 200 then [⟨1, n, []⟩] else []
theorem i_Keeping (n : Int) : x_impl_Keeping n = some (keeping n) := by
  unfold x_impl_Keeping keeping
  rw [i_within, Option.bind_some, cd_n]
  by_cases h : 1 ≤ n ∧ n ≤ 200
  · rw [cd_t h, if_pos h]
  · rw [cd_f h, if_neg h]
theorem keeping_ok (n : Int) : okOp (keeping n) = true := by
  unfold keeping
  split
  · rename_i h
    unfold okOp okParts
    simp only [List.all_cons, List.all_nil, okp1 (k := 1) (.inl rfl) (show 0 ≤ n by omega) h.2, Bool.and_true, Bool.and_eq_true, decide_eq_true_eq]
    refine ⟨⟨by simp, ?_⟩, ?_⟩
    · simp [fromOf, sumI, pFrom, pKeep, pDrop]; exact h.2
    · simp [toOf, sumI, pTo, pKeep, pPut]; exact h.2
  · rfl
theorem led_ok {a b : List DPart} (h : (led a b).2.2 = true) : okOp a = true ∧ okOp b = true ∧ fromOf a = fromOf b ∧ okOp (led a b).1 = true ∧ okOp (led a b).2.1 = true := by
  unfold led at h ⊢
  split at h
  · rename_i g; rw [if_pos g]; exact ⟨g.1, g.2.1, g.2.2.1, g.2.2.2.1, g.2.2.2.2⟩
  · cases h
theorem compose_ok {a b : List DPart} (h : (compose a b).2 = true) : okOp (compose a b).1 = true := by
  unfold compose at h ⊢
  split at h
  · rename_i g; rw [if_pos g]; exact g.2.2.2
  · cases h
def mstep (n : Int) (v o : List DPart) : Bool := ((led v o).2.2 && (compose v (led v o).2.1).2) && decide (fromOf o = n)
def mfold (n : Int) : List (List DPart) → List DPart → Option (List DPart)
  | [], v => some v
  | o :: r, v => if mstep n v o then mfold n r (compose v (led v o).2.1).1 else none
def mergeOps (l : List (List DPart)) (n : Int) : List DPart × Bool := if 0 ≤ n ∧ n ≤ 200 then (match mfold n l (keeping n) with | some v => (v, true) | none => ([], false)) else ([], false)
theorem i_MergeOps (l : List (List DPart)) (n : Int) : x_impl_MergeOps l n = some (mergeOps l n) := by
  unfold x_impl_MergeOps mergeOps
  rw [i_within, Option.bind_some, cd_n]
  by_cases h : 0 ≤ n ∧ n ≤ 200
  · rw [cd_t h, if_pos h, i_Keeping, Option.bind_some, each_run (F := x_impl_MergeOps_f0 n l) (e := fun (s : List DPart) => (Sum.inl s : Sum (List DPart) Unit)) l (fun _ _ _ => True) (fun r _ s => match mfold n r s with | some v => Sum.inl v | none => Sum.inr ()) (fun s _ => rfl) (fun o r k v hk hx hP => by
      unfold x_impl_MergeOps_f0 x_impl_MergeOps_b0
      rw [hx]
      simp only [i_OpOk, i_OpFrom, i_Transform, i_Compose, Option.bind_some, mfold]
      cases hm : mstep n v o with
      | true =>
        unfold mstep at hm
        simp only [Bool.and_eq_true, decide_eq_true_eq] at hm
        have g := led_ok hm.1.1
        refine .inl ⟨(compose v (led v o).2.1).1, ?_, trivial, rfl⟩
        simp [g.2.1, okOp_parts g.2.1, hm.1.1, hm.1.2, hm.2]
      | false =>
        refine .inr ?_
        unfold mstep at hm
        cases h1 : okOp o with
        | false => rfl
        | true =>
          simp only [okOp_parts h1, if_true, Bool.not_true, cd_F, Option.bind_some]
          by_cases h2 : fromOf o = n
          · cases h3 : (led v o).2.2 with
            | false => simp [h2]
            | true =>
              cases h4 : (compose v (led v o).2.1).2 with
              | false => simp [h2]
              | true => simp [h2, h3, h4] at hm
          · simp [h2]) (keeping n) trivial, Option.bind_some]
    cases mfold n l (keeping n) <;> rfl
  · rw [cd_f h, if_neg h]
theorem mfold_ok (n : Int) : ∀ (l : List (List DPart)) (v u : List DPart), okOp v = true → mfold n l v = some u → okOp u = true
  | [], v, u, h, hu => by cases hu; exact h
  | o :: r, v, u, h, hu => by
    unfold mfold at hu
    split at hu
    · rename_i hm
      unfold mstep at hm
      simp only [Bool.and_eq_true] at hm
      exact mfold_ok n r _ u (compose_ok hm.1.2) hu
    · cases hu
theorem mergeOps_sz (l : List (List DPart)) (n : Int) : lenL szDPart (mergeOps l n).1 ≤ 1000000000 := by
  unfold mergeOps
  split
  · cases h : mfold n l (keeping n) with
    | none => simp [lenL, sumL]
    | some v => have := okOp_sz (mfold_ok n l _ v (keeping_ok n) h); simp only; omega
  · simp [lenL, sumL]
end Go.Proofs.Ythfkcpdechjmnaa
