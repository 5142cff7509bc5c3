/- Two texts merged. No condition. -/
import Derived.Test.YthfkcpdechjmnaaMu
import Derived.Test.YthfkcpdechjmnaaMf
import Derived.Test.YthfkcpdechjmnaaGN
namespace Go.Proofs.Ythfkcpdechjmnaa

def runL : List (List DPart) → List Int → Option (List Int)
  | [], t => some t
  | o :: r, t => if fits o t then runL r (appl o t) else none
def ran (l : List (List DPart)) (t : List Int) : List Int × Bool := if okText t then (match runL l t with | some u => (u, true) | none => ([], false)) else ([], false)
theorem i_ApplyAll' (l : List (List DPart)) (t : List Int) : x_impl_ApplyAll l t = some (ran l t) := by
  unfold x_impl_ApplyAll ran
  rw [i_TextOk, Option.bind_some]
  cases h : okText t with
  | false => rfl
  | true =>
    have := okText_len h
    rw [Bool.not_true, cd_F, i_copyInts (by omega), Option.bind_some, each_run (F := x_impl_ApplyAll_f0 l) (e := fun (s : List Int) => (Sum.inl s : Sum (List Int) Unit)) l (fun _ _ _ => True) (fun r _ s => match runL r s with | some u => Sum.inl u | none => Sum.inr ()) (fun s _ => rfl) (fun x r k s hk hx hP => by
      unfold x_impl_ApplyAll_f0 x_impl_ApplyAll_b0
      rw [hx, i_Apply, Option.bind_some, runL]
      cases hf : fits x s with
      | false => exact .inr rfl
      | true => exact .inl ⟨_, rfl, trivial, rfl⟩) t trivial, Option.bind_some]
    cases runL l t <;> rfl
theorem runL_len : ∀ (l : List (List DPart)) (t u : List Int), t.length ≤ 200 → runL l t = some u → u.length ≤ 200
  | [], t, u, h, hu => by cases hu; exact h
  | o :: r, t, u, h, hu => by
    unfold runL at hu
    split at hu
    · rename_i hf
      have g := fits_get hf
      have a := appl_len (okOp_kinds g.1) (t := t) g.2.2
      have s := okOp_sums g.1
      have e := sum_to o
      exact runL_len r _ u (by omega) hu
    · cases hu
theorem ran_len (l : List (List DPart)) (t : List Int) : (ran l t).1.length ≤ 200 := by
  unfold ran
  split
  · rename_i h
    cases hr : runL l t with
    | none => simp
    | some u => exact runL_len l t u (okText_len h) hr
  · simp
def dif (t a : List Int) : List DPart := if okDiff t a then nrm (dparts t a) else []
def merge (t a b : List Int) : List Int × Bool := if (okDiff t a = true ∧ okDiff t b = true) ∧ (led (nrm (dparts t a)) (nrm (dparts t b))).2.2 = true then ran [nrm (dparts t a), (led (nrm (dparts t a)) (nrm (dparts t b))).2.1] t else ([], false)
theorem i_Merge (t a b : List Int) : x_impl_Merge t a b = some (merge t a b) := by
  unfold x_impl_Merge merge
  simp only [i_Diff, Option.bind_some]
  cases h1 : okDiff t a with
  | false => simp
  | true =>
    cases h2 : okDiff t b with
    | false => simp
    | true =>
      simp only [if_true, Bool.not_true, cd_F, Option.bind_some, i_Transform]
      cases h3 : (led (nrm (dparts t a)) (nrm (dparts t b))).2.2 with
      | false => simp
      | true => simp only [Bool.not_true, cd_F, i_ApplyAll', Option.bind_some]; simp
theorem merge_len (t a b : List Int) : (merge t a b).1.length ≤ 200 := by
  unfold merge
  split
  · exact ran_len _ _
  · simp
end Go.Proofs.Ythfkcpdechjmnaa
