/- The least difference of two texts; the program and the reference find the same one. No condition. -/
import Derived.Test.YthfkcpdechjmnaaMg
import Derived.Test.YthfkcpdechjmnaaGD
namespace Go.Proofs.Ythfkcpdechjmnaa

def lcs : List Int → List Int → Int
  | [], _ => 0
  | _ :: _, [] => 0
  | x :: a, y :: b => if x = y then lcs a b + 1 else max (lcs a (y :: b)) (lcs (x :: a) b)
termination_by a b => a.length + b.length
theorem lcs_nilL (b : List Int) : lcs [] b = 0 := by rw [lcs]
theorem lcs_nilR (a : List Int) : lcs a [] = 0 := by cases a <;> rw [lcs]
theorem lcs_cons (x y : Int) (a b : List Int) : lcs (x :: a) (y :: b) = if x = y then lcs a b + 1 else max (lcs a (y :: b)) (lcs (x :: a) b) := by rw [lcs]
theorem lcs_bd : ∀ (n : Nat) (a b : List Int), a.length + b.length ≤ n → 0 ≤ lcs a b ∧ lcs a b ≤ n
  | _, [], b, _ => by rw [lcs_nilL]; omega
  | _, x :: a, [], _ => by rw [lcs_nilR]; omega
  | 0, x :: a, y :: b, h => by simp at h
  | n + 1, x :: a, y :: b, h => by
    rw [lcs_cons]
    simp only [List.length_cons] at h
    have h1 := lcs_bd n a b (by omega)
    have h2 := lcs_bd n a (y :: b) (by simp only [List.length_cons]; omega)
    have h3 := lcs_bd n (x :: a) b (by simp only [List.length_cons]; omega)
    split <;> omega

/-- The table of the lengths, as far as it is filled. -/
def Tab (a b : List Int) (l : List (List Int)) (i j : Int) : Prop :=
  l.length = a.length + 1 ∧ ∀ p : Nat, p ≤ a.length → (el l p).length = b.length + 1 ∧ ∀ q : Nat, q ≤ b.length → el (el l p) q = if i < p ∨ (i = p ∧ j < q) then lcs (a.drop p) (b.drop q) else 0
theorem tab_zero {a b : List Int} {l : List (List Int)} (hl : l.length = a.length + 1) (h : ∀ p, p ≤ a.length → el l p = List.replicate (b.length + 1) 0) : Tab a b l ((a.length : Int) - 1) b.length := by
  refine ⟨hl, fun p hp => ?_⟩
  rw [h p hp]
  refine ⟨by simp, fun q hq => ?_⟩
  rw [el_rep (by omega)]
  by_cases hpa : p = a.length
  · rw [if_pos (by omega), hpa, List.drop_length, lcs_nilL]
  · rw [if_neg (by omega)]
theorem tab_row {a b : List Int} {l : List (List Int)} {i : Int} (h : Tab a b l i b.length) : Tab a b l i ((b.length : Int) - 1) := by
  refine ⟨h.1, fun p hp => ⟨(h.2 p hp).1, fun q hq => ?_⟩⟩
  rw [(h.2 p hp).2 q hq]
  by_cases h1 : i < p
  · rw [if_pos (.inl h1), if_pos (.inl h1)]
  by_cases h2 : i = p ∧ q = b.length
  · rw [if_neg (by omega), if_pos (.inr (by omega)), h2.2, List.drop_length, lcs_nilR]
  · rw [if_neg (by omega), if_neg (by omega)]
theorem tab_next {a b : List Int} {l : List (List Int)} {i : Int} (h : Tab a b l i (-1)) : Tab a b l (i - 1) b.length := by
  refine ⟨h.1, fun p hp => ⟨(h.2 p hp).1, fun q hq => ?_⟩⟩
  rw [(h.2 p hp).2 q hq]
  by_cases h1 : i ≤ p
  · rw [if_pos (by omega), if_pos (by omega)]
  · rw [if_neg (by omega), if_neg (by omega)]
theorem tab_set {a b : List Int} {l : List (List Int)} {i j : Nat} {v : Int} (h : Tab a b l i j) (hi : i ≤ a.length) (hj : j ≤ b.length) (hv : v = lcs (a.drop i) (b.drop j)) : Tab a b (l.set i ((el l i).set j v)) i ((j : Int) - 1) := by
  refine ⟨by simp [h.1], fun p hp => ?_⟩
  by_cases hpi : p = i
  · subst hpi
    rw [el_set (by have := h.1; omega)]
    refine ⟨by simp [(h.2 p hp).1], fun q hq => ?_⟩
    by_cases hqj : q = j
    · subst hqj
      rw [el_set (by have := (h.2 p hp).1; omega), if_pos (by omega), hv]
    · rw [el_set_ne (by omega), (h.2 p hp).2 q hq]
      by_cases hq2 : j < q
      · rw [if_pos (by omega), if_pos (by omega)]
      · rw [if_neg (by omega), if_neg (by omega)]
  · rw [el_set_ne (by omega)]
    refine ⟨(h.2 p hp).1, fun q hq => ?_⟩
    rw [(h.2 p hp).2 q hq]
    by_cases h1 : i < p
    · rw [if_pos (by omega), if_pos (by omega)]
    · rw [if_neg (by omega), if_neg (by omega)]
theorem tab_at {a b : List Int} {l : List (List Int)} {i j : Int} (h : Tab a b l i j) {p q : Nat} (hp : p ≤ a.length) (hq : q ≤ b.length) (hc : i < p ∨ (i = p ∧ j < q)) : el (el l p) q = lcs (a.drop p) (b.drop q) := by rw [(h.2 p hp).2 q hq, if_pos hc]
theorem tab_len {a b : List Int} {l : List (List Int)} {i j : Int} (h : Tab a b l i j) {p : Nat} (hp : p ≤ a.length) : (el l p).length = b.length + 1 := (h.2 p hp).1

theorem lcs_at {a b : List Int} {p q : Nat} (hp : p < a.length) (hq : q < b.length) : lcs (a.drop p) (b.drop q) = if el a p = el b q then lcs (a.drop (p + 1)) (b.drop (q + 1)) + 1 else max (lcs (a.drop (p + 1)) (b.drop q)) (lcs (a.drop p) (b.drop (q + 1))) := by
  rw [drop_el hp, drop_el hq, lcs_cons]
theorem lcs_small {a b : List Int} (ha : a.length ≤ 60) (hb : b.length ≤ 60) (p q : Nat) : 0 ≤ lcs (a.drop p) (b.drop q) ∧ lcs (a.drop p) (b.drop q) ≤ 120 :=
  lcs_bd 120 _ _ (by simp; omega)

section
variable {a b : List Int} (ha : a.length ≤ 60) (hb : b.length ≤ 60)
include ha hb
theorem i_inner (i : Nat) (hi : i < a.length) (l : List (List Int)) (h : Tab a b l i ((b.length : Int) - 1)) : ∃ r, iter (x_impl_align_f2 i a b) ((b.length : Int) - 1, l) = some r ∧ Tab a b r i (-1) := by
  refine iter_ex (fun (s : Int × List (List Int)) => -1 ≤ s.1 ∧ s.1 < (b.length : Int) ∧ Tab a b s.2 i s.1) (fun s => (s.1 + 1).toNat) (fun r => Tab a b r i (-1)) (fun s hP => ?_) _ ⟨by omega, by omega, h⟩
  obtain ⟨j, l⟩ := s
  obtain ⟨h0, h1, hT⟩ := hP
  simp only at h0 h1 hT ⊢
  unfold x_impl_align_f2 x_impl_align_b2
  simp only
  by_cases hj : 0 ≤ j
  · obtain ⟨j, rfl⟩ := Int.eq_ofNat_of_zero_le hj
    refine .inl ?_
    have hl := hT.1
    have e1 : ((i : Int) + 1).toNat = i + 1 := by omega
    have e2 : ((j : Int) + 1).toNat = j + 1 := by omega
    have k1 := tab_len hT (p := i) (by omega)
    have k2 := tab_len hT (p := i + 1) (by omega)
    have k3 := lcs_small ha hb (i + 1) (j + 1)
    have hlc := lcs_at hi (show j < b.length by omega)
    rw [cd_t hj, xg_of ⟨by omega, by omega⟩, xg_of ⟨by omega, by omega⟩]
    simp only [e1, e2, Int.toNat_natCast]
    by_cases hx : el a i = el b j
    · rw [if_pos hx] at hlc
      rw [cd_t hx, xg_of ⟨by omega, by omega⟩, xg_I (by omega) (by omega), xg_of ⟨by omega, by omega⟩, xg_I (by omega) (by omega), xg_of ⟨by omega, by omega⟩, tab_at hT (by omega) (by omega) (by omega), xg_I (by omega) (by omega), xg_of ⟨by omega, by omega⟩, xg_I (by omega) (by omega)]
      exact ⟨_, rfl, ⟨by simp only; omega, by simp only; omega, tab_set hT (by omega) (by omega) hlc.symm⟩, by simp only; omega⟩
    · rw [if_neg hx] at hlc
      rw [cd_f hx, xg_of ⟨by omega, by omega⟩, xg_I (by omega) (by omega), xg_of ⟨by omega, by omega⟩, xg_of ⟨by omega, by omega⟩, xg_of ⟨by omega, by omega⟩, xg_I (by omega) (by omega), xg_of ⟨by omega, by omega⟩, xg_of ⟨by omega, by omega⟩, xg_I (by omega) (by omega), tab_at hT (by omega) (by omega) (by omega), tab_at hT (by omega) (by omega) (by omega)]
      exact ⟨_, rfl, ⟨by simp only; omega, by simp only; omega, tab_set hT (by omega) (by omega) hlc.symm⟩, by simp only; omega⟩
  · rw [cd_f hj]
    have : j = -1 := by omega
    subst this
    exact .inr ⟨l, rfl, hT⟩
theorem i_outer (l : List (List Int)) (h : Tab a b l ((a.length : Int) - 1) b.length) : ∃ r, iter (x_impl_align_f1 b a) ((a.length : Int) - 1, l) = some r ∧ Tab a b r (-1) b.length := by
  refine iter_ex (fun (s : Int × List (List Int)) => -1 ≤ s.1 ∧ s.1 < (a.length : Int) ∧ Tab a b s.2 s.1 b.length) (fun s => (s.1 + 1).toNat) (fun r => Tab a b r (-1) b.length) (fun s hP => ?_) _ ⟨by omega, by omega, h⟩
  obtain ⟨i, l⟩ := s
  obtain ⟨h0, h1, hT⟩ := hP
  simp only at h0 h1 hT ⊢
  unfold x_impl_align_f1 x_impl_align_b1
  simp only
  by_cases hi : 0 ≤ i
  · obtain ⟨i, rfl⟩ := Int.eq_ofNat_of_zero_le hi
    obtain ⟨r, h2, h3⟩ := i_inner ha hb i (by omega) l (tab_row hT)
    rw [cd_t hi, xg_I (by omega) (by omega), h2, Option.bind_some, xg_I (by omega) (by omega)]
    exact .inl ⟨_, rfl, ⟨by simp only; omega, by simp only; omega, tab_next h3⟩, by simp only; omega⟩
  · rw [cd_f hi]
    have : i = -1 := by omega
    subst this
    exact .inr ⟨l, rfl, hT⟩
end

/-- What is done, sign by sign. -/
def dparts : List Int → List Int → List DPart
  | [], [] => []
  | _ :: a, [] => ⟨3, 1, []⟩ :: dparts a []
  | [], y :: b => ⟨2, 0, [y]⟩ :: dparts [] b
  | x :: a, y :: b => if x = y then ⟨1, 1, []⟩ :: dparts a b else if lcs (x :: a) b ≤ lcs a (y :: b) then ⟨3, 1, []⟩ :: dparts a (y :: b) else ⟨2, 0, [y]⟩ :: dparts (x :: a) b
termination_by a b => a.length + b.length
def comm : List Int → List Int → List Int
  | [], [] => []
  | _ :: a, [] => comm a []
  | [], _ :: b => comm [] b
  | x :: a, y :: b => if x = y then x :: comm a b else if lcs (x :: a) b ≤ lcs a (y :: b) then comm a (y :: b) else comm (x :: a) b
termination_by a b => a.length + b.length
/-- The four ways of going on. -/
theorem dcase {a b : List Int} {i j : Nat} (hi : i ≤ a.length) (hj : j ≤ b.length) :
    (i = a.length ∧ j = b.length ∧ dparts (a.drop i) (b.drop j) = [] ∧ comm (a.drop i) (b.drop j) = []) ∨
    (i < a.length ∧ j < b.length ∧ el a i = el b j ∧ dparts (a.drop i) (b.drop j) = ⟨1, 1, []⟩ :: dparts (a.drop (i + 1)) (b.drop (j + 1)) ∧ comm (a.drop i) (b.drop j) = el a i :: comm (a.drop (i + 1)) (b.drop (j + 1))) ∨
    (i < a.length ∧ (j = b.length ∨ (j < b.length ∧ el a i ≠ el b j ∧ lcs (a.drop i) (b.drop (j + 1)) ≤ lcs (a.drop (i + 1)) (b.drop j))) ∧ dparts (a.drop i) (b.drop j) = ⟨3, 1, []⟩ :: dparts (a.drop (i + 1)) (b.drop j) ∧ comm (a.drop i) (b.drop j) = comm (a.drop (i + 1)) (b.drop j)) ∨
    (j < b.length ∧ (i = a.length ∨ (i < a.length ∧ el a i ≠ el b j ∧ ¬ lcs (a.drop i) (b.drop (j + 1)) ≤ lcs (a.drop (i + 1)) (b.drop j))) ∧ dparts (a.drop i) (b.drop j) = ⟨2, 0, [el b j]⟩ :: dparts (a.drop i) (b.drop (j + 1)) ∧ comm (a.drop i) (b.drop j) = comm (a.drop i) (b.drop (j + 1))) := by
  by_cases hi2 : i < a.length
  · by_cases hj2 : j < b.length
    · by_cases hx : el a i = el b j
      · refine .inr (.inl ⟨hi2, hj2, hx, ?_, ?_⟩)
        · rw [drop_el hi2, drop_el hj2, dparts, if_pos hx]
        · rw [drop_el hi2, drop_el hj2, comm, if_pos hx]
      · by_cases hc : lcs (a.drop i) (b.drop (j + 1)) ≤ lcs (a.drop (i + 1)) (b.drop j)
        · refine .inr (.inr (.inl ⟨hi2, .inr ⟨hj2, hx, hc⟩, ?_, ?_⟩))
          · rw [drop_el hi2, drop_el hj2] at hc ⊢; rw [dparts, if_neg hx, if_pos hc]
          · rw [drop_el hi2, drop_el hj2] at hc ⊢; rw [comm, if_neg hx, if_pos hc]
        · refine .inr (.inr (.inr ⟨hj2, .inr ⟨hi2, hx, hc⟩, ?_, ?_⟩))
          · rw [drop_el hi2, drop_el hj2] at hc ⊢; rw [dparts, if_neg hx, if_neg hc]
          · rw [drop_el hi2, drop_el hj2] at hc ⊢; rw [comm, if_neg hx, if_neg hc]
    · have hj3 : j = b.length := by omega
      refine .inr (.inr (.inl ⟨hi2, .inl hj3, ?_, ?_⟩))
      · rw [hj3, List.drop_length, drop_el hi2, dparts]
      · rw [hj3, List.drop_length, drop_el hi2, comm]
  · have hi3 : i = a.length := by omega
    by_cases hj2 : j < b.length
    · refine .inr (.inr (.inr ⟨hj2, .inl hi3, ?_, ?_⟩))
      · rw [hi3, List.drop_length, drop_el hj2, dparts]
      · rw [hi3, List.drop_length, drop_el hj2, comm]
    · have hj3 : j = b.length := by omega
      refine .inl ⟨hi3, hj3, ?_, ?_⟩
      · rw [hi3, hj3, List.drop_length, List.drop_length, dparts]
      · rw [hi3, hj3, List.drop_length, List.drop_length, comm]



section
variable {a b : List Int} (ha : a.length ≤ 60) (hb : b.length ≤ 60) {T : List (List Int)} (hT : Tab a b T (-1) b.length)
include ha hb hT

theorem i_walk (p : List DPart) (hp : p.length ≤ 1000) : iter (x_impl_align_f3 a b T) (0, 0, p, b, 0) = some (p ++ dparts a b, b, (b.length : Int)) := by
  have h := iter_go (f := x_impl_align_f3 a b T) (fun s => 0 ≤ s.1 ∧ s.1 ≤ (a.length : Int) ∧ 0 ≤ s.2.1 ∧ s.2.1 ≤ (b.length : Int) ∧ (s.2.2.1.length : Int) ≤ 1000 + s.1 + s.2.1 ∧ s.2.2.2.1 = b ∧ s.2.2.2.2 = s.2.1)
    (fun s => ((a.length : Int) - s.1 + ((b.length : Int) - s.2.1)).toNat) (fun s => (s.2.2.1 ++ dparts (a.drop s.1.toNat) (b.drop s.2.1.toNat), b, (b.length : Int))) (fun s hP => by
    obtain ⟨i, j, o, b', n⟩ := s
    obtain ⟨h1, h2, h3, h4, hI⟩ := hP
    simp only at *
    obtain ⟨i, rfl⟩ := Int.eq_ofNat_of_zero_le h1
    obtain ⟨j, rfl⟩ := Int.eq_ofNat_of_zero_le h3
    have e1 : ((i : Int) + 1).toNat = i + 1 := by omega
    have e2 : ((j : Int) + 1).toNat = j + 1 := by omega
    have hl := hT.1
    unfold x_impl_align_f3 x_impl_align_b3
    simp only [Int.toNat_natCast, e1, e2]
    obtain ⟨h5, rfl, rfl⟩ := hI
    rcases dcase (a := a) (b := b') (i := i) (j := j) (by omega) (by omega) with ⟨g1, g2, g3, g4⟩ | ⟨g1, g2, g3, g4, g5⟩ | ⟨g1, g2, g3, g4⟩ | ⟨g1, g2, g3, g4⟩
    · refine .inr ?_
      rw [cd_f (by omega), Option.bind_some, cd_f (by omega)]
      rw [g3]; simp [g2]
    · refine .inl ⟨((i : Int) + 1, (j : Int) + 1, o ++ [⟨1, 1, []⟩], b', (j : Int) + 1), ?_, ⟨by simp only; omega, by simp only; omega, by simp only; omega, by simp only; omega, by simp; omega, rfl, rfl⟩, by simp only; omega, ?_⟩
      · rw [cd_t (by omega), Option.bind_some, cd_T, cd_t (by omega), decide_eq_true (p := (j : Int) < (b'.length : Int)) (by omega), Option.bind_some, cd_T, xg_of ⟨by omega, by omega⟩, xg_of ⟨by omega, by omega⟩, Option.bind_some, cd_t g3]
        unfold x_impl_Diff_1
        simp only [decide_true, cd_T, Option.bind_some]
        rw [xg_of (by omega), xg_I (by omega) (by omega), Option.bind_some, xg_I (by omega) (by omega), xg_I (by omega) (by omega)]
      · simp only [e1, e2, g4]; simp
    · refine .inl ⟨((i : Int) + 1, (j : Int), o ++ [⟨3, 1, []⟩], b', (j : Int)), ?_, ⟨by simp only; omega, by simp only; omega, by simp only; omega, by simp only; omega, by simp; omega, rfl, rfl⟩, by simp only; omega, ?_⟩
      · have k1 := tab_len hT (p := i) (by omega)
        have k2 := tab_len hT (p := i + 1) (by omega)
        rw [cd_t (by omega), Option.bind_some, cd_T, cd_t (by omega)]
        rcases g2 with g2 | ⟨g2, g5, g6⟩
        · rw [decide_eq_false (p := (j : Int) < (b'.length : Int)) (by omega), Option.bind_some, cd_F, Option.bind_some, cd_F, cd_t (by omega), Option.bind_some, cd_T]
          unfold x_impl_Diff_1
          simp only [decide_true, cd_T, Option.bind_some, show decide ((0 : Int) = 1) = false from rfl, cd_F]
          rw [xg_of (by omega), xg_I (by omega) (by omega), Option.bind_some, xg_I (by omega) (by omega)]
          simp
        · rw [decide_eq_true (p := (j : Int) < (b'.length : Int)) (by omega), Option.bind_some, cd_T, xg_of ⟨by omega, by omega⟩, xg_of ⟨by omega, by omega⟩, Option.bind_some, cd_f g5, cd_f (by omega), cd_t (by omega), xg_I (by omega) (by omega), xg_of ⟨by omega, by omega⟩, xg_of ⟨by omega, by omega⟩, xg_of ⟨by omega, by omega⟩, xg_I (by omega) (by omega), xg_of ⟨by omega, by omega⟩, tab_at hT (p := i) (by omega) (by omega) (by omega), tab_at hT (p := i + 1) (by omega) (by omega) (by omega), decide_eq_true g6, Option.bind_some, Option.bind_some, cd_T]
          unfold x_impl_Diff_1
          simp only [decide_true, cd_T, Option.bind_some, show decide ((0 : Int) = 1) = false from rfl, cd_F]
          rw [xg_of (by omega), xg_I (by omega) (by omega), Option.bind_some, xg_I (by omega) (by omega)]
          simp
      · simp only [e1, Int.toNat_natCast, g3]; simp
    · refine .inl ⟨((i : Int), (j : Int) + 1, o ++ [⟨2, 0, [el b' j]⟩], b', (j : Int) + 1), ?_, ⟨by simp only; omega, by simp only; omega, by simp only; omega, by simp only; omega, by simp; omega, rfl, rfl⟩, by simp only; omega, ?_⟩
      · have k1 := tab_len hT (p := i) (by omega)
        have fin : (Option.bind (x_impl_Diff_1 0 1 o b' j) fun r1927 => xg (inI ((j : Int) + 1)) <| some (Lr.go ((i : Int), (j : Int) + 1, r1927.1, r1927.2.1, r1927.2.2))) = some (Lr.go ((i : Int), (j : Int) + 1, o ++ [⟨2, 0, [el b' j]⟩], b', (j : Int) + 1) : Lr (Int × Int × List DPart × List Int × Int) (List DPart × List Int × Int)) := by
          unfold x_impl_Diff_1
          simp only [Option.bind_some, show decide ((0 : Int) = 1) = false from rfl, cd_F, Int.toNat_natCast]
          rw [xg_of ⟨by omega, by omega⟩, xg_of (by simp; omega), xg_I (by omega) (by omega), Option.bind_some, xg_I (by omega) (by omega)]
        rcases g2 with g2 | ⟨g2, g5, g6⟩
        · rw [cd_f (by omega), decide_eq_true (p := (j : Int) < (b'.length : Int)) (by omega), Option.bind_some, cd_T, cd_f (by omega), Option.bind_some, cd_F, Option.bind_some, cd_F, cd_f (by omega), cd_f (by omega), Option.bind_some, Option.bind_some, cd_F]
          exact fin
        · have k2 := tab_len hT (p := i + 1) (by omega)
          rw [cd_t (by omega), Option.bind_some, cd_T, cd_t (by omega), decide_eq_true (p := (j : Int) < (b'.length : Int)) (by omega), Option.bind_some, cd_T, xg_of ⟨by omega, by omega⟩, xg_of ⟨by omega, by omega⟩, Option.bind_some, cd_f g5, cd_f (by omega), cd_t (by omega), xg_I (by omega) (by omega), xg_of ⟨by omega, by omega⟩, xg_of ⟨by omega, by omega⟩, xg_of ⟨by omega, by omega⟩, xg_I (by omega) (by omega), xg_of ⟨by omega, by omega⟩, tab_at hT (p := i) (by omega) (by omega) (by omega), tab_at hT (p := i + 1) (by omega) (by omega) (by omega), decide_eq_false g6, Option.bind_some, Option.bind_some, cd_F]
          exact fin
      · simp only [e2, Int.toNat_natCast, g3]; simp) (0, 0, p, b, 0) ⟨by simp, by simp, by simp, by simp, by simp; omega, rfl, rfl⟩
  simpa using h

omit ha hb hT in
theorem binv_up {b : DL02B} {m : Nat} (h : Binv b m) : Binv b (m + 1) := by
  have := h.len; have := h.sz; have := h.d0; have := h.d1
  exact ⟨by omega, by omega, by omega, by omega, fun q hq => by have := h.el q hq; omega⟩

end
theorem dparts_len : ∀ (n : Nat) (a b : List Int), a.length + b.length ≤ n → (dparts a b).length ≤ n ∧ (dparts a b).length ≤ a.length + b.length
  | _, [], [], _ => by rw [dparts]; simp
  | 0, x :: a, b, h => by simp at h
  | 0, [], y :: b, h => by simp at h
  | n + 1, x :: a, [], h => by
    simp only [List.length_cons, List.length_nil] at h
    have := dparts_len n a [] (by simp; omega)
    rw [dparts]; simp only [List.length_cons, List.length_nil] at *; omega
  | n + 1, [], y :: b, h => by
    simp only [List.length_cons, List.length_nil] at h
    have := dparts_len n [] b (by simp; omega)
    rw [dparts]; simp only [List.length_cons, List.length_nil] at *; omega
  | n + 1, x :: a, y :: b, h => by
    simp only [List.length_cons] at h
    have h1 := dparts_len n a b (by omega)
    have h2 := dparts_len n a (y :: b) (by simp only [List.length_cons]; omega)
    have h3 := dparts_len n (x :: a) b (by simp only [List.length_cons]; omega)
    rw [dparts]
    simp only [List.length_cons] at *
    split
    · simp only [List.length_cons]; omega
    · split <;> (simp only [List.length_cons]; omega)
/-- What holds of all three kinds of steps holds of all parts. -/
theorem dparts_ind {P : List Int → List Int → List DPart → Prop} (h0 : P [] [] []) (h1 : ∀ x a b l, P a b l → P (x :: a) (x :: b) (⟨1, 1, []⟩ :: l)) (h2 : ∀ x a b l, P a b l → P (x :: a) b (⟨3, 1, []⟩ :: l)) (h3 : ∀ y a b l, P a b l → P a (y :: b) (⟨2, 0, [y]⟩ :: l)) :
    ∀ (n : Nat) (a b : List Int), a.length + b.length ≤ n → P a b (dparts a b)
  | _, [], [], _ => by rw [dparts]; exact h0
  | 0, x :: a, b, h => by simp at h
  | 0, [], y :: b, h => by simp at h
  | n + 1, x :: a, [], h => by
    simp only [List.length_cons, List.length_nil] at h
    rw [dparts]; exact h2 _ _ _ _ (dparts_ind h0 h1 h2 h3 n a [] (by simp; omega))
  | n + 1, [], y :: b, h => by
    simp only [List.length_cons, List.length_nil] at h
    rw [dparts]; exact h3 _ _ _ _ (dparts_ind h0 h1 h2 h3 n [] b (by simp; omega))
  | n + 1, x :: a, y :: b, h => by
    simp only [List.length_cons] at h
    rw [dparts]
    split
    · rename_i e; subst e; exact h1 _ _ _ _ (dparts_ind h0 h1 h2 h3 n a b (by omega))
    · split
      · exact h2 _ _ _ _ (dparts_ind h0 h1 h2 h3 n a (y :: b) (by simp only [List.length_cons]; omega))
      · exact h3 _ _ _ _ (dparts_ind h0 h1 h2 h3 n (x :: a) b (by simp only [List.length_cons]; omega))
theorem dparts_ok (a b : List Int) (hb : b.all okSign = true) : (dparts a b).all okPart = true := by
  have := dparts_ind (P := fun _ b l => b.all okSign = true → l.all okPart = true) (fun _ => rfl) (fun x a b l ih h => by
    simp only [List.all_cons, Bool.and_eq_true] at h ⊢; exact ⟨by decide, ih h.2⟩) (fun x a b l ih h => by
    simp only [List.all_cons, Bool.and_eq_true]; exact ⟨by decide, ih h⟩) (fun y a b l ih h => by
    simp only [List.all_cons, Bool.and_eq_true] at h ⊢; exact ⟨by simp [okPart, h.1], ih h.2⟩) _ a b (Nat.le_refl _)
  exact this hb
theorem dparts_sum (a b : List Int) : fromOf (dparts a b) = a.length ∧ toOf (dparts a b) = b.length := by
  exact dparts_ind (P := fun a b l => fromOf l = a.length ∧ toOf l = b.length) ⟨rfl, rfl⟩ (fun x a b l ih => by
    simp only [fromOf, toOf, sumI, pFrom, pTo, pKeep, pDrop, pPut, List.length_cons] at *; simp; omega) (fun x a b l ih => by
    simp only [fromOf, toOf, sumI, pFrom, pTo, pKeep, pDrop, pPut, List.length_cons] at *; simp; omega) (fun x a b l ih => by
    simp only [fromOf, toOf, sumI, pFrom, pTo, pKeep, pDrop, pPut, List.length_cons] at *; simp; omega) _ a b (Nat.le_refl _)
theorem dparts_appl (a b : List Int) : appl (dparts a b) a = b :=
  dparts_ind (P := fun a b l => appl l a = b) rfl (fun x a b l ih => by simp [appl, ih]) (fun x a b l ih => by simp [appl, ih]) (fun y a b l ih => by simp [appl, ih]) _ a b (Nat.le_refl _)
theorem kept_comm : ∀ (n : Nat) (a b : List Int), a.length + b.length ≤ n → kept (dparts a b) a = comm a b
  | _, [], [], _ => by rw [dparts, comm]; rfl
  | 0, x :: a, b, h => by simp at h
  | 0, [], y :: b, h => by simp at h
  | n + 1, x :: a, [], h => by
    simp only [List.length_cons, List.length_nil] at h
    have := kept_comm n a [] (by simp; omega)
    rw [dparts, comm]; simp [kept, this]
  | n + 1, [], y :: b, h => by
    simp only [List.length_cons, List.length_nil] at h
    have := kept_comm n [] b (by simp; omega)
    rw [dparts, comm]; simp [kept, this]
  | n + 1, x :: a, y :: b, h => by
    simp only [List.length_cons] at h
    have h1 := kept_comm n a b (by omega)
    have h2 := kept_comm n a (y :: b) (by simp only [List.length_cons]; omega)
    have h3 := kept_comm n (x :: a) b (by simp only [List.length_cons]; omega)
    rw [dparts, comm]
    split
    · simp [kept, h1]
    · split
      · simp [kept, h2]
      · simp [kept, h3]

def okDiff (a b : List Int) : Bool := okText a && okText b && decide (a.length ≤ 60) && decide (b.length ≤ 60)
theorem n60 (a : Nat) : ((a : Int) ≤ 60) ↔ a ≤ 60 := by omega
theorem i_diffOk (a b : List Int) : x_impl_diffOk a b = some (okDiff a b) := by
  unfold x_impl_diffOk okDiff
  simp only [i_TextOk, Option.bind_some, cs_, ca_]
  refine bsome ?_
  simp [n60]
theorem okDiff_get {a b : List Int} (h : okDiff a b = true) : a.length ≤ 60 ∧ b.length ≤ 60 ∧ a.all okSign = true ∧ b.all okSign = true := by
  unfold okDiff okText at h
  simp only [Bool.and_eq_true, decide_eq_true_eq] at h
  exact ⟨h.1.2, h.2, h.1.1.1.2, h.1.1.2.2⟩
theorem dparts_op {a b : List Int} (h : okDiff a b = true) : okOp (dparts a b) = true := by
  obtain ⟨h1, h2, h3, h4⟩ := okDiff_get h
  have h5 := dparts_len _ a b (Nat.le_refl _)
  have h6 := dparts_sum a b
  unfold okOp okParts
  rw [dparts_ok a b h4, h6.1, h6.2]
  simp; omega
theorem zero_rows (b : List Int) (n : Nat) (_hn : n ≤ 1000) (hb : b.length ≤ 1000) : eachN (x_impl_align_f0 b) (fun (s : List (List Int)) => (s : List (List Int))) (List.replicate n ([] : List Int)).length 0 (List.replicate n ([] : List Int)) = some (List.replicate n (List.replicate (b.length + 1) 0)) := by
  refine each_run (F := x_impl_align_f0 b) (List.replicate n ([] : List Int)) (fun r k s => s = List.replicate k (List.replicate (b.length + 1) 0) ++ List.replicate r.length [] ∧ k + r.length = n) (fun _ _ _ => List.replicate n (List.replicate (b.length + 1) (0 : Int))) (fun s h => by
    rw [h.1]; simp) (fun x r k s hk hx hP => ?_) _ ⟨by simp, by simp⟩
  obtain ⟨rfl, h2⟩ := hP
  simp only [List.length_cons] at h2
  refine .inl ⟨_, ?_, ⟨rfl, by omega⟩, rfl⟩
  unfold x_impl_align_f0 x_impl_align_b0
  rw [xg_I (by omega) (by omega), xg_of ⟨by omega, by omega⟩, xg_of (by simp; omega), show ((b.length : Int) + 1).toNat = b.length + 1 by omega]
  congr 2
  have hm := set_mid (List.replicate k (List.replicate (b.length + 1) (0 : Int))) [] (List.replicate (b.length + 1) 0) (List.replicate r.length [])
  rw [List.length_replicate] at hm
  rw [List.length_cons, List.replicate_succ (a := ([] : List Int)), hm, List.replicate_succ' (n := k), List.append_assoc]
  rfl
theorem i_align {a b : List Int} (ha : a.length ≤ 60) (hb : b.length ≤ 60) : x_impl_align a b [] b 0 = some (dparts a b, b, (b.length : Int)) := by
  unfold x_impl_align
  rw [xg_I (by omega) (by omega), xg_of ⟨by omega, by omega⟩]
  rw [show ((a.length : Int) + 1).toNat = a.length + 1 by omega, zero_rows b (a.length + 1) (by omega) (by omega), Option.bind_some, xg_I (by omega) (by omega)]
  obtain ⟨T, h1, h2⟩ := i_outer ha hb _ (tab_zero (a := a) (b := b) (l := List.replicate (a.length + 1) (List.replicate (b.length + 1) (0 : Int))) (by simp) (fun p hp => el_rep (by omega)))
  rw [h1, Option.bind_some, i_walk ha hb h2 [] (by simp)]
  simp
theorem i_Diff (a b : List Int) : x_impl_Diff a b = some (if okDiff a b then (nrm (dparts a b), true) else ([], false)) := by
  unfold x_impl_Diff
  rw [i_diffOk, Option.bind_some]
  cases h : okDiff a b with
  | false => rfl
  | true =>
    obtain ⟨h1, h2, _, _⟩ := okDiff_get h
    rw [i_align h1 h2, Option.bind_some, i_OpNorm, dparts_op h]; rfl
theorem sum_nrm_from {o : List DPart} (_h : okParts o = true) : True := trivial
theorem comm_len : ∀ (n : Nat) (a b : List Int), a.length + b.length ≤ n → (comm a b).length ≤ a.length ∧ (comm a b).length ≤ b.length ∧ ((comm a b).length : Int) = lcs a b
  | _, [], [], _ => by rw [comm, lcs_nilL]; simp
  | 0, x :: a, b, h => by simp at h
  | 0, [], y :: b, h => by simp at h
  | n + 1, x :: a, [], h => by
    simp only [List.length_cons, List.length_nil] at h
    have := comm_len n a [] (by simp; omega)
    rw [lcs_nilR] at this ⊢
    rw [comm]; simp only [List.length_cons, List.length_nil] at *; omega
  | n + 1, [], y :: b, h => by
    simp only [List.length_cons, List.length_nil] at h
    have := comm_len n [] b (by simp; omega)
    rw [lcs_nilL] at this ⊢
    rw [comm]; simp only [List.length_cons, List.length_nil] at *; omega
  | n + 1, x :: a, y :: b, h => by
    simp only [List.length_cons] at h
    have h1 := comm_len n a b (by omega)
    have h2 := comm_len n a (y :: b) (by simp only [List.length_cons]; omega)
    have h3 := comm_len n (x :: a) b (by simp only [List.length_cons]; omega)
    rw [comm, lcs_cons]
    simp only [List.length_cons] at *
    split
    · simp only [List.length_cons]; omega
    · split <;> omega
end Go.Proofs.Ythfkcpdechjmnaa
