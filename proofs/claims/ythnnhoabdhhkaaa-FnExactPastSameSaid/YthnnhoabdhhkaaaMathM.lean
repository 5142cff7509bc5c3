/- Plain definitions: marks. No condition. -/
import Derived.Test.YthnnhoabdhhkaaaMathA
namespace Go.Proofs.Ythnnhoabdhhkaaa

/-- What is wrong with a mark, asked beside its neighbour. -/
def markBad (l : List Mk) (n : Int) (i : Nat) : Bool :=
  (((!within (l.getD i mk0).id 1 1000000000 || (decide ((0 : Int) < (i : Int)) && decide ((l.getD i mk0).id ≤ (l.getD ((i : Int) - 1).toNat mk0).id))) || decide ((l.getD i mk0).lo < 0)) || decide ((l.getD i mk0).hi < (l.getD i mk0).lo)) || decide (n < (l.getD i mk0).hi)
def marksOk (l : List Mk) (n : Int) : Bool := within n 0 200 && decide ((l.length : Int) ≤ 12) && (List.range l.length).all fun i => !markBad l n i

theorem markBad_spec (l : List Mk) (n : Int) (i : Nat) : ((((!within (l.getD i mk0).id 1 1000000000 || decide ((l.getD i mk0).lo < 0)) || decide ((l.getD i mk0).hi < (l.getD i mk0).lo)) || decide (n < (l.getD i mk0).hi)) || (decide ((0 : Int) < (i : Int)) && decide ((l.getD i mk0).id ≤ (l.getD ((i : Int) - 1).toNat mk0).id))) = markBad l n i := by
  unfold markBad
  generalize (!within (l.getD i mk0).id 1 1000000000) = a
  generalize decide ((l.getD i mk0).lo < 0) = b
  generalize decide ((l.getD i mk0).hi < (l.getD i mk0).lo) = c
  generalize decide (n < (l.getD i mk0).hi) = d
  generalize (decide ((0 : Int) < (i : Int)) && decide ((l.getD i mk0).id ≤ (l.getD ((i : Int) - 1).toNat mk0).id)) = e
  cases a <;> cases b <;> cases c <;> cases d <;> cases e <;> rfl

theorem range_all_succ (p : Nat → Bool) (k : Nat) : (List.range (k + 1)).all p = ((List.range k).all p && p k) := by
  rw [List.range_succ, List.all_append]; simp
theorem range_all_step {p : Nat → Bool} {k : Nat} (h : (List.range k).all p = true) (hk : p k = true) : (List.range (k + 1)).all p = true := by
  rw [range_all_succ, h, hk]; rfl
theorem range_all_no {p : Nat → Bool} {k n : Nat} (h : k < n) (hk : p k = false) : (List.range n).all p = false := by
  rw [List.all_eq_false]
  exact ⟨k, List.mem_range.2 h, by simpa using hk⟩

theorem marksOk_no0 {l : List Mk} {n : Int} (h : (within n 0 200 && decide ((l.length : Int) ≤ 12)) = false) : marksOk l n = false := by simp only [marksOk, h]; rfl
theorem marksOk_no1 {l : List Mk} {n : Int} {k : Nat} (hk : k < l.length) (h : markBad l n k = true) : marksOk l n = false := by
  rw [marksOk, range_all_no hk (by rw [h]; rfl), Bool.and_false]
theorem marksOk_end {l : List Mk} {n : Int} {k : Nat} (hk : l.length ≤ k) (hk' : k ≤ l.length) (h : ((List.range k).all fun i => !markBad l n i) = true) : marksOk l n = (within n 0 200 && decide ((l.length : Int) ≤ 12)) := by
  have : k = l.length := by omega
  subst this
  rw [marksOk, h, Bool.and_true]

def markDrop (l : List Mk) (id : Int) : List Mk := l.filter fun m => !decide (m.id = id)
def marksAt (l : List Mk) (p : Int) : List Int := (l.filter fun m => decide (m.lo ≤ p) && decide (p < m.hi)).map (·.id)
def markedAll (l : List Mk) (n : Int) : Int := if marksOk l n then (((List.range n.toNat).filter fun (p : Nat) => decide ((0 : Int) < ((marksAt l (p : Int)).length : Int))).length : Int) else 0

theorem filter_take {T : Type} (p : T → Bool) (l : List T) (k : Nat) (d0 : T) (h : k < l.length) : (l.take (k + 1)).filter p = (l.take k).filter p ++ (if p (l.getD k d0) then [l.getD k d0] else []) := by
  rw [take_snoc l k d0 h, List.filter_append]; simp [List.filter_cons]

theorem drop_len (l : List Mk) (id : Int) (k : Nat) : (markDrop (l.take k) id).length ≤ l.length := by
  have h1 := List.length_filter_le (fun m : Mk => !decide (m.id = id)) (l.take k)
  unfold markDrop
  simp only [List.length_take] at h1
  omega
theorem at_len (l : List Mk) (p : Int) (k : Nat) : (marksAt (l.take k) p).length ≤ l.length := by
  have h1 := List.length_filter_le (fun m : Mk => decide (m.lo ≤ p) && decide (p < m.hi)) (l.take k)
  unfold marksAt
  rw [List.length_map]
  simp only [List.length_take] at h1
  omega

theorem drop_keep {l : List Mk} {id : Int} {k : Nat} (h : k < l.length) (hk : ¬ (l.getD k mk0).id = id) : markDrop (l.take k) id ++ [l.getD k mk0] = markDrop (l.take (k + 1)) id := by
  unfold markDrop
  rw [filter_take _ _ _ mk0 h, if_pos (by simpa using hk)]
theorem drop_skip {l : List Mk} {id : Int} {k : Nat} (h : k < l.length) (hk : (l.getD k mk0).id = id) : markDrop (l.take k) id = markDrop (l.take (k + 1)) id := by
  unfold markDrop
  rw [filter_take _ _ _ mk0 h, if_neg (by simpa using hk), List.append_nil]
theorem at_keep {l : List Mk} {p : Int} {k : Nat} (h : k < l.length) (hk : (decide ((l.getD k mk0).lo ≤ p) && decide (p < (l.getD k mk0).hi)) = true) : marksAt (l.take k) p ++ [(l.getD k mk0).id] = marksAt (l.take (k + 1)) p := by
  unfold marksAt
  rw [filter_take _ _ _ mk0 h, if_pos hk, List.map_append]; rfl
theorem at_skip {l : List Mk} {p : Int} {k : Nat} (h : k < l.length) (hk : (decide ((l.getD k mk0).lo ≤ p) && decide (p < (l.getD k mk0).hi)) = false) : marksAt (l.take k) p = marksAt (l.take (k + 1)) p := by
  unfold marksAt
  rw [filter_take _ _ _ mk0 h, if_neg (by rw [hk]; exact Bool.false_ne_true), List.append_nil]

def countTo (l : List Mk) (k : Nat) : Nat := ((List.range k).filter fun (p : Nat) => decide ((0 : Int) < ((marksAt l (p : Int)).length : Int))).length
theorem count_hit {l : List Mk} {k : Nat} (h : (0 : Int) < ((marksAt l (k : Int)).length : Int)) : countTo l (k + 1) = countTo l k + 1 := by
  unfold countTo
  rw [List.range_succ, List.filter_append, List.length_append, List.filter_cons, if_pos (decide_eq_true h)]; rfl
theorem count_miss {l : List Mk} {k : Nat} (h : ¬ (0 : Int) < ((marksAt l (k : Int)).length : Int)) : countTo l (k + 1) = countTo l k := by
  unfold countTo
  rw [List.range_succ, List.filter_append, List.length_append, List.filter_cons, if_neg (by rw [decide_eq_false h]; exact Bool.false_ne_true)]; rfl
theorem count_le (l : List Mk) (k : Nat) : countTo l k ≤ k := by
  have := List.length_filter_le (fun (p : Nat) => decide ((0 : Int) < ((marksAt l (p : Int)).length : Int))) (List.range k)
  simpa [countTo] using this
theorem markedAll_no {l : List Mk} {n : Int} (h : marksOk l n = false) : markedAll l n = 0 := by simp [markedAll, h]
theorem markedAll_yes {l : List Mk} {n : Int} {k : Nat} (h : marksOk l n = true) (h1 : ¬ (k : Int) < n) (h2 : (k : Int) ≤ n) : markedAll l n = (countTo l k : Int) := by
  have : k = n.toNat := by omega
  subst this
  simp [markedAll, h, countTo]
theorem marksOk_n {l : List Mk} {n : Int} (h : marksOk l n = true) : 0 ≤ n ∧ n ≤ 200 ∧ (l.length : Int) ≤ 12 := by
  simp only [marksOk, Bool.and_eq_true, decide_eq_true_eq] at h
  have := within_iff.1 h.1.1
  omega

def upM : Int → Nat → List Mk
  | _, 0 => []
  | k, n + 1 => ⟨k, k + 1, k + 2⟩ :: upM (k + 3) n
def markedM (l : List Mk) (k : Int) (j : Nat) : List Mk := upM k j ++ l.drop j

theorem upM_len (k : Int) (n : Nat) : (upM k n).length = n := by
  induction n generalizing k with
  | zero => rfl
  | succ n ih => simp [upM, ih]
theorem upM_snoc (k : Int) (n : Nat) : upM k (n + 1) = upM k n ++ [⟨k + 3 * (n : Int), k + 3 * (n : Int) + 1, k + 3 * (n : Int) + 1 + 1⟩] := by
  induction n generalizing k with
  | zero => simp [upM]; omega
  | succ n ih =>
    rw [upM, ih]
    simp only [upM, List.cons_append, List.cons.injEq, true_and]
    congr 2
    rw [Mk.mk.injEq]
    omega
theorem markedM_len (l : List Mk) (k : Int) (j : Nat) (h : j ≤ l.length) : (markedM l k j).length = l.length := by
  unfold markedM
  simp [upM_len]; omega
theorem markedM_step (l : List Mk) (k : Int) (j : Nat) (h : j < l.length) (a b c : Mk) (hc : c = ⟨k + 3 * (j : Int), k + 3 * (j : Int) + 1, k + 3 * (j : Int) + 1 + 1⟩) : (((markedM l k j).set j a).set j b).set j c = markedM l k (j + 1) := by
  subst hc
  rw [List.set_set, List.set_set]
  unfold markedM
  rw [List.set_append_right _ _ (by rw [upM_len]; omega), upM_len, Nat.sub_self, upM_snoc, List.append_assoc]
  congr 1
  rw [List.drop_eq_getElem_cons h]
  rfl
theorem getD_set_self {T : Type} (l : List T) (j : Nat) (x d0 : T) (h : j < l.length) : (l.set j x).getD j d0 = x := by
  rw [List.getD_eq_getElem?_getD, List.getElem?_set_self h]; rfl

/-- Whether the marks hold k, k + 1, ..: the next number, or -1. -/
def heldM : List Mk → Int → Int
  | [], k => k
  | m :: l, k => if m.id = k then (if m.lo = k + 1 then (if m.hi = k + 1 + 1 then heldM l (k + 3) else -1) else -1) else -1
theorem heldM_step {a : List Mk} {k : Int} {j : Nat} (h : j < a.length) (he : heldM (a.drop j) (k + 3 * (j : Int)) = heldM a k) (h1 : (a.getD j mk0).id = k + 3 * (j : Int)) (h2 : (a.getD j mk0).lo = k + 3 * (j : Int) + 1) (h3 : (a.getD j mk0).hi = k + 3 * (j : Int) + 1 + 1) : heldM (a.drop (j + 1)) (k + 3 * ((j + 1 : Nat) : Int)) = heldM a k := by
  rw [← he, drop_cons mk0 h, heldM, if_pos h1, if_pos h2, if_pos h3]
  congr 1
  omega
theorem heldM_stop1 {a : List Mk} {k : Int} {j : Nat} (h : j < a.length) (he : heldM (a.drop j) (k + 3 * (j : Int)) = heldM a k) (h1 : ¬ (a.getD j mk0).id = k + 3 * (j : Int)) : -1 = heldM a k := by
  rw [← he, drop_cons mk0 h, heldM, if_neg h1]
theorem heldM_stop2 {a : List Mk} {k : Int} {j : Nat} (h : j < a.length) (he : heldM (a.drop j) (k + 3 * (j : Int)) = heldM a k) (h1 : (a.getD j mk0).id = k + 3 * (j : Int)) (h2 : ¬ (a.getD j mk0).lo = k + 3 * (j : Int) + 1) : -1 = heldM a k := by
  rw [← he, drop_cons mk0 h, heldM, if_pos h1, if_neg h2]
theorem heldM_stop3 {a : List Mk} {k : Int} {j : Nat} (h : j < a.length) (he : heldM (a.drop j) (k + 3 * (j : Int)) = heldM a k) (h1 : (a.getD j mk0).id = k + 3 * (j : Int)) (h2 : (a.getD j mk0).lo = k + 3 * (j : Int) + 1) (h3 : ¬ (a.getD j mk0).hi = k + 3 * (j : Int) + 1 + 1) : -1 = heldM a k := by
  rw [← he, drop_cons mk0 h, heldM, if_pos h1, if_pos h2, if_neg h3]
theorem heldM_end {a : List Mk} {k : Int} {j : Nat} (h : a.length ≤ j) (he : heldM (a.drop j) (k + 3 * (j : Int)) = heldM a k) : k + 3 * (j : Int) = heldM a k := by
  rw [← he, List.drop_eq_nil_of_le h, heldM]
theorem heldM_up (k : Int) (n : Nat) : heldM (upM k n) k = k + 3 * (n : Int) := by
  induction n generalizing k with
  | zero => simp [upM, heldM]
  | succ n ih =>
    rw [upM, heldM, if_pos rfl, if_pos rfl, if_pos (by simp only; omega), ih]; omega
theorem heldM_marked (l : List Mk) (k : Int) : heldM (markedM l k l.length) k = k + 3 * (l.length : Int) := by
  unfold markedM
  rw [List.drop_length, List.append_nil, heldM_up]

theorem mk_ext {a b : Mk} (h1 : a.id = b.id) (h2 : a.lo = b.lo) (h3 : a.hi = b.hi) : a = b := by cases a; cases b; simp_all
instance : DecidableEq Mk := fun a b =>
  if h : a.id = b.id ∧ a.lo = b.lo ∧ a.hi = b.hi then .isTrue (mk_ext h.1 h.2.1 h.2.2) else .isFalse fun e => h (by subst e; exact ⟨rfl, rfl, rfl⟩)
theorem eqM_1 {a b : Mk} (h : ¬ a.id = b.id) : false = decide (a = b) := (decide_eq_false fun e => h (by rw [e])).symm
theorem eqM_2 {a b : Mk} (h : ¬ a.lo = b.lo) : false = decide (a = b) := (decide_eq_false fun e => h (by rw [e])).symm
theorem eqM_3 {a b : Mk} (h : ¬ a.hi = b.hi) : false = decide (a = b) := (decide_eq_false fun e => h (by rw [e])).symm
theorem eqM_y {a b : Mk} (h1 : a.id = b.id) (h2 : a.lo = b.lo) (h3 : a.hi = b.hi) : true = decide (a = b) := (decide_eq_true (mk_ext h1 h2 h3)).symm
theorem ne_of_get {T : Type} {a b : List T} {k : Nat} {d0 : T} (h : ¬ a.getD k d0 = b.getD k d0) : ¬ a = b := fun e => h (by rw [e])
theorem ne_of_len {T : Type} {a b : List T} (h : ¬ (a.length : Int) = (b.length : Int)) : ¬ a = b := fun e => h (by rw [e])
theorem szM_yes {l : List Mk} {k : Int} (h : ¬ k - (l.length : Int) < 0) : k - (l.length : Int) = (if k - (l.length : Int) < 0 then -1 else k - (l.length : Int)) := by rw [if_neg h]
theorem szM_no {l : List Mk} {k : Int} (h : k - (l.length : Int) < 0) : -1 = (if k - (l.length : Int) < 0 then -1 else k - (l.length : Int)) := by rw [if_pos h]

end Go.Proofs.Ythnnhoabdhhkaaa
