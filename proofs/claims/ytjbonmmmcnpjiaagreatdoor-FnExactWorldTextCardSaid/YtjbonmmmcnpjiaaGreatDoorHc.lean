/- Worlds that are right. No condition. -/
import Derived.Test.YtjbonmmmcnpjiaaGreatDoorHb
import Derived.Test.YtjbonmmmcnpjiaaGreatDoorHy
import Derived.Test.YtjbonmmmcnpjiaaGreatDoorH3
namespace Go.Proofs.YtjbonmmmcnpjiaaGreatDoor
-- stripes
theorem bXor_range {x y : Int} (hx : 0 ≤ x ∧ x < 4294967296) (hy : 0 ≤ y ∧ y < 4294967296) : 0 ≤ bXor x y ∧ bXor x y < 4294967296 := by
  have h1 : (BitVec.ofInt 64 x ^^^ BitVec.ofInt 64 y).toNat < 2 ^ 32 := by
    rw [BitVec.toNat_xor]
    refine Nat.xor_lt_two_pow ?_ ?_ <;> rw [BitVec.toNat_ofInt] <;> omega
  unfold bXor
  rw [i64_in (by omega)]
  omega
noncomputable def fnv (s : ByteArray) : Int := (x_impl_Fnv s).getD 0
theorem i_Fnv (s : ByteArray) (hs : s.size ≤ 9223372036854775806) : x_impl_Fnv s = some (fnv s) ∧ 0 ≤ fnv s := by
  have key : ∃ r, x_impl_Fnv s = some r ∧ 0 ≤ r := by
    unfold x_impl_Fnv
    obtain ⟨r, h1, h2⟩ := iter_ex (f := x_impl_Fnv_f0 s) (fun z => (0 ≤ z.1 ∧ z.1 < 4294967296) ∧ 0 ≤ z.2 ∧ z.2 ≤ s.size) (fun z => (s.size - z.2).toNat) (fun r => 0 ≤ r) (fun z ⟨h1, h2, h3⟩ => by
      unfold x_impl_Fnv_f0 x_impl_Fnv_b0
      by_cases h : z.2 < (s.size : Int)
      · have hb := (sget s z.2.toNat).toNat_lt
        have hx := bXor_range h1 (y := ((sget s z.2.toNat).toNat : Int)) (by omega)
        rw [cd_t h, xg_of ⟨h2, h⟩, xg_I (by omega) (by omega), xg_of ⟨by omega, by omega⟩, xg_I (by omega) (by omega)]
        exact .inl ⟨_, rfl, ⟨⟨by simp only; omega, by simp only; omega⟩, by simp only; omega, by simp only; omega⟩, by simp only; omega⟩
      · rw [cd_f h]
        exact .inr ⟨_, rfl, h1.1⟩) (2166136261, 0) ⟨by simp, by simp, by simp⟩
    exact ⟨r, by rw [h1]; rfl, h2⟩
  obtain ⟨r, h1, h2⟩ := key
  have : fnv s = r := by unfold fnv; rw [h1]; rfl
  rw [this]
  exact ⟨h1, h2⟩
theorem s_Fnv (s : ByteArray) : x_spec_Fnv s = x_impl_Fnv s := rfl
noncomputable def stripe (s : ByteArray) (n : Int) : Int := if n < 1 then 0 else fnv s % n
theorem i_StripeOf (s : ByteArray) (n : Int) (hs : s.size ≤ 9223372036854775806) : x_impl_StripeOf s n = some (stripe s n) := by
  unfold x_impl_StripeOf stripe
  by_cases h : n < 1
  · rw [cd_t h, if_pos h]
  · have := i_Fnv s hs
    rw [cd_f h, if_neg h, this.1, Option.bind_some, xg_of ⟨this.2, by omega⟩]
theorem s_StripeOf (s : ByteArray) (n : Int) (hs : s.size ≤ 9223372036854775806) : x_spec_StripeOf s n = some (stripe s n) := by
  unfold x_spec_StripeOf stripe
  by_cases h : n < 1
  · rw [cd_t h, if_pos h]
  · have := i_Fnv s hs
    rw [cd_f h, if_neg h, s_Fnv, this.1, Option.bind_some, xg_of ⟨this.2, by omega⟩]
theorem stripe_bd {s : ByteArray} {n : Int} (h : 1 ≤ n) : 0 ≤ stripe s n ∧ stripe s n < n := by
  unfold stripe
  rw [if_neg (by omega)]
  exact ⟨Int.emod_nonneg _ (by omega), Int.emod_lt_of_pos _ (by omega)⟩
-- what a list has
theorem i_Contains (l : List Int) (n : Int) : x_slices_Contains_int_int l n = some (decide (n ∈ l)) := by
  unfold x_slices_Contains_int_int x_slices_Index_int_int
  rw [each_ix l (fun x => decide (n = x)) () (fun k => .inr k) (fun x k hk hx => by
    unfold x_slices_Index_int_int_f0 x_slices_Index_int_int_b0
    rw [hx]; cases decide (n = x) <;> rfl)]
  by_cases h : 0 ≤ ixOf (fun x => decide (n = x)) l
  · have h2 := ixOf_nn h
    rw [if_pos h]
    have hm : n ∈ l := by
      have e : n = el l (ixOf (fun x => decide (n = x)) l).toNat := by simpa using h2.2
      rw [e]; exact el_mem h2.1
    simp only [Option.bind_some, Sum.elim_inr]
    rw [decide_eq_true h, decide_eq_true hm]
  · rw [if_neg h]
    have hn := ixOf_neg.1 (show ixOf (fun x => decide (n = x)) l < 0 by omega)
    rw [decide_eq_false (p := n ∈ l) fun hm => by simpa using hn n hm]
    rfl
theorem s_Has (l : List Int) (n : Int) : x_spec_l14Has l n = some (decide (n ∈ l)) := by
  unfold x_spec_l14Has
  rw [each_run (F := x_spec_l14Has_f0 n l) (e := fun _ => (Sum.inl () : Sum Unit Bool)) l (fun _ _ _ => True) (fun r _ _ => bif decide (n ∈ r) then .inr true else .inl ()) (fun _ _ => by simp) (fun x r k s hk hx _ => by
    unfold x_spec_l14Has_f0 x_spec_l14Has_b0
    rw [hx]
    by_cases h : x = n
    · exact .inr (by rw [cd_t h, h]; simp)
    · refine .inl ⟨(), by rw [cd_f h], trivial, ?_⟩
      have : n ∈ x :: r ↔ n ∈ r := by rw [List.mem_cons]; exact ⟨fun q => q.resolve_left fun e => h e.symm, .inr⟩
      rw [decide_eq_decide.2 this]) () trivial, Option.bind_some]
  cases decide (n ∈ l) <;> rfl
-- steps
def stepsIn (step : Int) : List Int → List Int → Option (List Int)
  | met, [] => some met
  | met, n :: r => if n = -1 then stepsIn step met r else if step ≤ n ∨ n ∈ met then none else stepsIn step (met ++ [n]) r
theorem stepsIn_app {step : Int} : ∀ {a b met : List Int}, stepsIn step met (a ++ b) = (stepsIn step met a).bind (stepsIn step · b)
  | [], _, _ => rfl
  | n :: a, b, met => by
    rw [List.cons_append, stepsIn, stepsIn]
    split
    · exact stepsIn_app
    · split
      · rfl
      · exact stepsIn_app
theorem stepsIn_len {step : Int} : ∀ {a met m : List Int}, stepsIn step met a = some m → m.length ≤ met.length + a.length
  | [], met, m, h => by obtain rfl := Option.some.inj h; simp
  | n :: a, met, m, h => by
    rw [stepsIn] at h
    split at h
    · have := stepsIn_len h; simp only [List.length_cons]; omega
    · split at h
      · cases h
      · have := stepsIn_len h; simp only [List.length_cons, List.length_append, List.length_nil] at this ⊢; omega
def told3 (o : Option (List Int)) : Sum (List Int) Bool := match o with
  | some m => .inl m
  | none => .inr false
def taskSteps (t : DTask) : List Int := [t.inv, t.lin, t.res]
def okSteps (l : List DTask) (step : Int) : Bool := (stepsIn step [] (l.flatMap taskSteps)).isSome
theorem i_stepsOk (l : List DTask) (step : Int) (hl : l.length ≤ 1000) : x_impl_stepsOk l step = some (okSteps l step) := by
  unfold x_impl_stepsOk okSteps
  rw [each_run (F := x_impl_stepsOk_f0 step l) (e := fun _ => (Sum.inl () : Sum Unit Bool)) l (fun r k s => s.length ≤ 3 * k) (fun r _ s => bif (stepsIn step s (r.flatMap taskSteps)).isSome then .inl () else .inr false) (fun _ _ => rfl) (fun x r k s hk hx hP => by
    unfold x_impl_stepsOk_f0 x_impl_stepsOk_b0
    rw [hx, show [x.inv, x.lin, x.res] = taskSteps x from rfl, each_run (F := x_impl_stepsOk_f1 step l k) (e := fun s => (Sum.inl s : Sum (List Int) Bool)) (taskSteps x) (fun r j s => s.length ≤ 3 * k + j) (fun r _ s => told3 (stepsIn step s r)) (fun _ _ => rfl) (fun y q j z hj hy hQ => by
      have hj3 : j < 3 := hj
      unfold x_impl_stepsOk_f1 x_impl_stepsOk_b1
      rw [hx]
      rw [show el [x.inv, x.lin, x.res] j = y from hy, i_Contains]
      by_cases h1 : y = -1
      · exact .inl ⟨z, by rw [cd_t h1], by omega, by rw [stepsIn, if_pos h1]⟩
      · rw [cd_f h1]
        by_cases h2 : step ≤ y
        · exact .inr (by rw [cd_t h2, stepsIn, if_neg h1, if_pos (.inl h2)]; rfl)
        · rw [cd_f h2]
          by_cases h3 : y ∈ z
          · exact .inr (by rw [decide_eq_true h3, stepsIn, if_neg h1, if_pos (.inr h3)]; rfl)
          · refine .inl ⟨z ++ [y], ?_, by simp only [List.length_append, List.length_cons, List.length_nil]; omega, by rw [stepsIn, if_neg h1, if_neg (by simp [h2, h3])]⟩
            rw [decide_eq_false h3]
            simp only [Option.bind_some, cond_false]
            rw [xg_of (by omega)]) s (by omega), Option.bind_some]
    rw [List.flatMap_cons, stepsIn_app]
    cases hm : stepsIn step s (taskSteps x) with
    | none => exact .inr rfl
    | some m => exact .inl ⟨m, rfl, by have := stepsIn_len hm; have e : (taskSteps x).length = 3 := rfl; omega, rfl⟩) [] (by simp), Option.bind_some]
  cases (stepsIn step [] (l.flatMap taskSteps)).isSome <;> rfl
theorem s_Steps (w : DWorld) (hl : w.tasks.length ≤ 1000) : x_spec_l14Steps w = some (okSteps w.tasks w.step) := by
  unfold x_spec_l14Steps okSteps
  rw [each_run (F := x_spec_l14Steps_f0 w) (e := fun _ => (Sum.inl () : Sum Unit Bool)) w.tasks (fun r k s => s.length ≤ 3 * k) (fun r _ s => bif (stepsIn w.step s (r.flatMap taskSteps)).isSome then .inl () else .inr false) (fun _ _ => rfl) (fun x r k s hk hx hP => by
    unfold x_spec_l14Steps_f0 x_spec_l14Steps_b0
    rw [hx, show [x.inv, x.lin, x.res] = taskSteps x from rfl, each_run (F := x_spec_l14Steps_f1 w k) (e := fun s => (Sum.inl s : Sum (List Int) Bool)) (taskSteps x) (fun r j s => s.length ≤ 3 * k + j) (fun r _ s => told3 (stepsIn w.step s r)) (fun _ _ => rfl) (fun y q j z hj hy hQ => by
      have hj3 : j < 3 := hj
      unfold x_spec_l14Steps_f1 x_spec_l14Steps_b1
      rw [hx]
      rw [show el [x.inv, x.lin, x.res] j = y from hy, s_Has]
      by_cases h1 : y = -1
      · exact .inl ⟨z, by rw [cd_t h1], by omega, by rw [stepsIn, if_pos h1]⟩
      · rw [cd_f h1]
        by_cases h2 : w.step ≤ y
        · exact .inr (by rw [cd_t h2, stepsIn, if_neg h1, if_pos (.inl h2)]; rfl)
        · rw [cd_f h2]
          by_cases h3 : y ∈ z
          · exact .inr (by rw [decide_eq_true h3, stepsIn, if_neg h1, if_pos (.inr h3)]; rfl)
          · refine .inl ⟨z ++ [y], ?_, by simp only [List.length_append, List.length_cons, List.length_nil]; omega, by rw [stepsIn, if_neg h1, if_neg (by simp [h2, h3])]⟩
            rw [decide_eq_false h3]
            simp only [Option.bind_some, cond_false]
            rw [xg_of (by omega)]) s (by omega), Option.bind_some]
    rw [List.flatMap_cons, stepsIn_app]
    cases hm : stepsIn w.step s (taskSteps x) with
    | none => exact .inr rfl
    | some m => exact .inl ⟨m, rfl, by have := stepsIn_len hm; have e : (taskSteps x).length = 3 := rfl; omega, rfl⟩) [] (by simp), Option.bind_some]
  cases (stepsIn w.step [] (w.tasks.flatMap taskSteps)).isSome <;> rfl
-- queues
def qIn (w : DWorld) (doc : ByteArray) : List Int → List Int → Option (List Int)
  | qd, [] => some qd
  | qd, k :: r => if ((0 ≤ k ∧ k ≤ (w.tasks.length : Int) - 1) ∧ (el w.tasks k.toNat).pc = 2) ∧ (el w.tasks k.toNat).c.doc = doc ∧ k ∉ qd then qIn w doc (qd ++ [k]) r else none
noncomputable def qsIn (w : DWorld) : Option DQueue → List Int → List DQueue → Option (List Int)
  | _, qd, [] => some qd
  | p, qd, q :: r => if (prevB (fun p => !sLt p.doc q.doc) p = false ∧ 1 ≤ q.list.length ∧ q.list.length ≤ 2) ∧ 0 ≤ hubIx w.h.docs q.doc then (qIn w q.doc qd q.list).bind (qsIn w (some q) · r) else none
noncomputable def okQueues (w : DWorld) : Bool := match qsIn w none [] w.queues with
  | some qd => allI (fun k t => !(decide (t.pc = 2) && !decide ((k : Int) ∈ qd))) 0 w.tasks
  | none => false
theorem qIn_len {w : DWorld} {doc : ByteArray} : ∀ {a qd m : List Int}, qIn w doc qd a = some m → m.length = qd.length + a.length
  | [], qd, m, h => by obtain rfl := Option.some.inj h; simp
  | n :: a, qd, m, h => by
    rw [qIn] at h
    split at h
    · have := qIn_len h; simp only [List.length_cons, List.length_append, List.length_nil] at this ⊢; omega
    · cases h
theorem i_queuesOk (w : DWorld) (hl : w.tasks.length ≤ 1000) (hq : w.queues.length ≤ 1048576) : x_impl_queuesOk w = some (okQueues w) := by
  unfold x_impl_queuesOk okQueues
  rw [each_run (F := x_impl_queuesOk_f0 w) (e := fun s => (Sum.inl s : Sum (List Int) Bool)) w.queues (fun r k s => s.length ≤ 2 * k) (fun r k s => told3 (qsIn w (if k = 0 then none else some (el w.queues (k - 1))) s r)) (fun _ _ => rfl) (fun x r k s hk hx hP => by
    unfold x_impl_queuesOk_f0 x_impl_queuesOk_b0
    have e := prevAt w.queues (fun p => !sLt p.doc x.doc) (by omega) hk
    have e1 : (if k + 1 = 0 then none else some (el w.queues (k + 1 - 1))) = some x := by rw [if_neg (by omega), Nat.add_sub_cancel, hx]
    rw [hx, e, e1, i_within, i_HubDoc, qsIn]
    generalize prevB (fun p : DQueue => !sLt p.doc x.doc) (if k = 0 then none else some (el w.queues (k - 1))) = b
    simp only [Option.bind_some, cs_, co_]
    by_cases hc : (b = false ∧ 1 ≤ x.list.length ∧ x.list.length ≤ 2) ∧ 0 ≤ hubIx w.h.docs x.doc
    · rw [if_pos hc, hc.1.1, decide_eq_true (p := 1 ≤ (x.list.length : Int) ∧ (x.list.length : Int) ≤ 2) (by omega), decide_eq_false (p := hubIx w.h.docs x.doc < 0) (by omega)]
      simp only [Bool.not_true, Bool.or_false, cond_false]
      rw [each_run (F := x_impl_queuesOk_f1 w k) (e := fun s => (Sum.inl s : Sum (List Int) Bool)) x.list (fun r j s => s.length ≤ 2 * k + j) (fun r _ s => told3 (qIn w x.doc s r)) (fun _ _ => rfl) (fun y q j z hj hy hQ => by
        unfold x_impl_queuesOk_f1 x_impl_queuesOk_b1
        rw [hx, hy, xg_I (by omega) (by omega), i_within, Option.bind_some, qIn, i_Contains]
        by_cases h1 : 0 ≤ y ∧ y ≤ (w.tasks.length : Int) - 1
        · rw [decide_eq_true h1]
          simp only [Bool.not_true, cond_false]
          rw [xg_of ⟨h1.1, by omega⟩, xg_of ⟨h1.1, by omega⟩]
          simp only [Option.bind_some, cs_, co_]
          by_cases h2 : ((el w.tasks y.toNat).pc = 2) ∧ (el w.tasks y.toNat).c.doc = x.doc ∧ y ∉ z
          · refine .inl ⟨z ++ [y], ?_, by simp only [List.length_append, List.length_cons, List.length_nil]; omega, by rw [if_pos ⟨⟨h1, h2.1⟩, h2.2⟩]⟩
            rw [decide_eq_true h2.1, decide_eq_true h2.2.1, decide_eq_false h2.2.2]
            simp only [Bool.not_true, Bool.or_false, cond_false]
            rw [xg_of (by omega)]
          · refine .inr ?_
            rw [if_neg fun h => h2 ⟨h.1.2, h.2⟩]
            have : ((!decide ((el w.tasks y.toNat).pc = 2) || !decide ((el w.tasks y.toNat).c.doc = x.doc)) || decide (y ∈ z)) = true := by
              simp only [Bool.or_eq_true, Bool.not_eq_true', decide_eq_false_iff_not, decide_eq_true_eq]
              refine Classical.byContradiction fun hn => h2 ?_
              simp only [not_or, Classical.not_not] at hn
              exact ⟨hn.1.1, hn.1.2, hn.2⟩
            rw [this]; rfl
        · refine .inr ?_
          rw [decide_eq_false h1, if_neg fun h => h1 h.1.1]
          rfl) s (by omega), Option.bind_some]
      cases hm : qIn w x.doc s x.list with
      | none => exact .inr rfl
      | some m => exact .inl ⟨m, rfl, by have := qIn_len hm; omega, rfl⟩
    · rw [if_neg hc]
      have : ((b || !decide (1 ≤ (x.list.length : Int) ∧ (x.list.length : Int) ≤ 2)) || decide (hubIx w.h.docs x.doc < 0)) = true := by
        simp only [Bool.or_eq_true, Bool.not_eq_true', decide_eq_false_iff_not, decide_eq_true_eq]
        refine Classical.byContradiction fun hn => hc ?_
        simp only [not_or, Classical.not_not, Bool.not_eq_true] at hn
        exact ⟨⟨hn.1.1, by omega⟩, by omega⟩
      rw [this]
      exact .inr rfl) [] (by simp), Option.bind_some]
  simp only [if_true]
  cases hm : qsIn w none [] w.queues with
  | none => rfl
  | some qd =>
    simp only [told3, Sum.elim_inl]
    rw [each_alli (b := .inr false) w.tasks (fun k t => !(decide (t.pc = 2) && !decide ((k : Int) ∈ qd))) (fun x k hk hx => by
      unfold x_impl_queuesOk_f2 x_impl_queuesOk_b2
      rw [hx, i_Contains]
      simp only [Option.bind_some, cs_, ca_]
      cases decide (x.pc = 2) <;> cases decide ((k : Int) ∈ qd) <;> rfl), Option.bind_some]
    cases allI (fun k t => !(decide (t.pc = 2) && !decide ((k : Int) ∈ qd))) 0 w.tasks <;> rfl
theorem s_Queues (w : DWorld) (hl : w.tasks.length ≤ 1000) (hq : w.queues.length ≤ 1048576) : x_spec_l14Queues w = some (okQueues w) := by
  unfold x_spec_l14Queues okQueues
  rw [each_run (F := x_spec_l14Queues_f0 w) (e := fun s => (Sum.inl s : Sum (List Int) Bool)) w.queues (fun r k s => s.length ≤ 2 * k) (fun r k s => told3 (qsIn w (if k = 0 then none else some (el w.queues (k - 1))) s r)) (fun _ _ => rfl) (fun x r k s hk hx hP => by
    unfold x_spec_l14Queues_f0 x_spec_l14Queues_b0
    have e := prevAt w.queues (fun p => !sLt p.doc x.doc) (by omega) hk
    have e1 : (if k + 1 = 0 then none else some (el w.queues (k + 1 - 1))) = some x := by rw [if_neg (by omega), Nat.add_sub_cancel, hx]
    rw [hx, e, e1, s_In, s_HubDoc, qsIn]
    generalize prevB (fun p : DQueue => !sLt p.doc x.doc) (if k = 0 then none else some (el w.queues (k - 1))) = b
    simp only [Option.bind_some, cs_, co_]
    by_cases hc : (b = false ∧ 1 ≤ x.list.length ∧ x.list.length ≤ 2) ∧ 0 ≤ hubIx w.h.docs x.doc
    · rw [if_pos hc, hc.1.1, decide_eq_true (p := 1 ≤ (x.list.length : Int) ∧ (x.list.length : Int) ≤ 2) (by omega), decide_eq_false (p := hubIx w.h.docs x.doc < 0) (by omega)]
      simp only [Bool.not_true, Bool.or_false, cond_false]
      rw [each_run (F := x_spec_l14Queues_f1 w k) (e := fun s => (Sum.inl s : Sum (List Int) Bool)) x.list (fun r j s => s.length ≤ 2 * k + j) (fun r _ s => told3 (qIn w x.doc s r)) (fun _ _ => rfl) (fun y q j z hj hy hQ => by
        unfold x_spec_l14Queues_f1 x_spec_l14Queues_b1
        rw [hx, hy, xg_I (by omega) (by omega), s_In, Option.bind_some, qIn, s_Has]
        by_cases h1 : 0 ≤ y ∧ y ≤ (w.tasks.length : Int) - 1
        · rw [decide_eq_true h1]
          simp only [Bool.not_true, cond_false]
          rw [xg_of ⟨h1.1, by omega⟩, xg_of ⟨h1.1, by omega⟩]
          simp only [Option.bind_some, cs_, co_]
          by_cases h2 : ((el w.tasks y.toNat).pc = 2) ∧ (el w.tasks y.toNat).c.doc = x.doc ∧ y ∉ z
          · refine .inl ⟨z ++ [y], ?_, by simp only [List.length_append, List.length_cons, List.length_nil]; omega, by rw [if_pos ⟨⟨h1, h2.1⟩, h2.2⟩]⟩
            rw [decide_eq_true h2.1, decide_eq_true h2.2.1, decide_eq_false h2.2.2]
            simp only [Bool.not_true, Bool.or_false, cond_false]
            rw [xg_of (by omega)]
          · refine .inr ?_
            rw [if_neg fun h => h2 ⟨h.1.2, h.2⟩]
            have : ((!decide ((el w.tasks y.toNat).pc = 2) || !decide ((el w.tasks y.toNat).c.doc = x.doc)) || decide (y ∈ z)) = true := by
              simp only [Bool.or_eq_true, Bool.not_eq_true', decide_eq_false_iff_not, decide_eq_true_eq]
              refine Classical.byContradiction fun hn => h2 ?_
              simp only [not_or, Classical.not_not] at hn
              exact ⟨hn.1.1, hn.1.2, hn.2⟩
            rw [this]; rfl
        · refine .inr ?_
          rw [decide_eq_false h1, if_neg fun h => h1 h.1.1]
          rfl) s (by omega), Option.bind_some]
      cases hm : qIn w x.doc s x.list with
      | none => exact .inr rfl
      | some m => exact .inl ⟨m, rfl, by have := qIn_len hm; omega, rfl⟩
    · rw [if_neg hc]
      have : ((b || !decide (1 ≤ (x.list.length : Int) ∧ (x.list.length : Int) ≤ 2)) || decide (hubIx w.h.docs x.doc < 0)) = true := by
        simp only [Bool.or_eq_true, Bool.not_eq_true', decide_eq_false_iff_not, decide_eq_true_eq]
        refine Classical.byContradiction fun hn => hc ?_
        simp only [not_or, Classical.not_not, Bool.not_eq_true] at hn
        exact ⟨⟨hn.1.1, by omega⟩, by omega⟩
      rw [this]
      exact .inr rfl) [] (by simp), Option.bind_some]
  simp only [if_true]
  cases hm : qsIn w none [] w.queues with
  | none => rfl
  | some qd =>
    simp only [told3, Sum.elim_inl]
    rw [each_alli (b := .inr false) w.tasks (fun k t => !(decide (t.pc = 2) && !decide ((k : Int) ∈ qd))) (fun x k hk hx => by
      unfold x_spec_l14Queues_f2 x_spec_l14Queues_b2
      rw [hx, s_Has]
      simp only [Option.bind_some, cs_, ca_]
      cases decide (x.pc = 2) <;> cases decide ((k : Int) ∈ qd) <;> rfl), Option.bind_some]
    cases allI (fun k t => !(decide (t.pc = 2) && !decide ((k : Int) ∈ qd))) 0 w.tasks <;> rfl
-- locks
noncomputable def slotOf (n : Int) (t : DTask) : Option Nat := if t.pc = 1 then some (stripe t.c.doc n).toNat else none
noncomputable def okLocks (w : DWorld) : Bool :=
  allI (fun s k => decide (k = -1) || ((decide (0 ≤ k ∧ k ≤ (w.tasks.length : Int) - 1) && decide ((el w.tasks k.toNat).pc = 1)) && decide (stripe (el w.tasks k.toNat).c.doc w.locks.length = (s : Int)))) 0 w.locks &&
  allI (fun k t => !(decide (t.pc = 1) && !decide (el w.locks (stripe t.c.doc w.locks.length).toNat = (k : Int)))) 0 w.tasks
theorem slot_at {w : DWorld} {j s : Nat} : (w.tasks.map (slotOf w.locks.length))[j]? = some (some s) ↔ j < w.tasks.length ∧ (el w.tasks j).pc = 1 ∧ (stripe (el w.tasks j).c.doc w.locks.length).toNat = s := by
  rw [List.getElem?_map, Option.map_eq_some_iff]
  constructor
  · rintro ⟨t, h1, h2⟩
    obtain ⟨hj, rfl⟩ := List.getElem?_eq_some_iff.1 h1
    rw [el_eq hj]
    unfold slotOf at h2
    split at h2
    · rename_i hp
      exact ⟨hj, hp, by simpa using h2⟩
    · cases h2
  · rintro ⟨hj, hp, hs⟩
    refine ⟨el w.tasks j, by rw [el_eq hj]; exact List.getElem?_eq_getElem hj, ?_⟩
    unfold slotOf
    rw [if_pos hp, hs]
theorem okLocks_iff (w : DWorld) (hn : 1 ≤ w.locks.length) : okLocks w = true ↔ lockIn 0 (List.replicate w.locks.length (-1)) (w.tasks.map (slotOf w.locks.length)) = some w.locks := by
  have hst := fun s : ByteArray => stripe_bd (s := s) (n := (w.locks.length : Int)) (by omega)
  rw [lock_iff rfl (fun s hs => by
    obtain ⟨t, _, ht⟩ := List.mem_map.1 hs
    unfold slotOf at ht
    split at ht
    · have := hst t.c.doc
      have e : (stripe t.c.doc w.locks.length).toNat = s := by simpa using ht
      omega
    · cases ht)]
  unfold okLocks
  rw [Bool.and_eq_true, allI_iff, allI_iff]
  refine and_congr ⟨fun h s hs => ?_, fun h s hs => ?_⟩ ⟨fun h j s hj => ?_, fun h k hk => ?_⟩
  · have h1 := h s hs
    simp only [Bool.or_eq_true, Bool.and_eq_true, decide_eq_true_eq, Nat.zero_add] at h1
    refine h1.imp id fun ⟨⟨h2, h3⟩, h4⟩ => ⟨(el w.locks s).toNat, by omega, slot_at.2 ⟨by omega, h3, by omega⟩⟩
  · simp only [Bool.or_eq_true, Bool.and_eq_true, decide_eq_true_eq, Nat.zero_add]
    refine (h s hs).imp id fun ⟨j, h1, h2⟩ => ?_
    obtain ⟨g1, g2, g3⟩ := slot_at.1 h2
    rw [h1, Int.toNat_natCast]
    have := hst (el w.tasks j).c.doc
    exact ⟨⟨by omega, g2⟩, by omega⟩
  · obtain ⟨g1, g2, g3⟩ := slot_at.1 hj
    have h1 := h j g1
    rw [decide_eq_true g2, g3] at h1
    simpa using h1
  · cases hp : decide ((el w.tasks k).pc = 1) with
    | false => rfl
    | true =>
      have := h k _ (slot_at.2 ⟨hk, by simpa using hp, rfl⟩)
      simp [this]
theorem s_Locks (w : DWorld) (hm : smDWorld w) (hn : 1 ≤ w.locks.length) (hl : w.tasks.length ≤ 1000) : x_spec_l14Locks w = some (okLocks w) := by
  have hst := fun s : ByteArray => stripe_bd (s := s) (n := (w.locks.length : Int)) (by omega)
  have hdoc : ∀ {j : Nat}, j < w.tasks.length → (el w.tasks j).c.doc.size ≤ 9223372036854775806 := fun hj => by
    have := hm.2.2.2.1.2 _ (el_mem hj)
    have h2 : (el w.tasks _).c.doc.size ≤ 1099511627776 := this.1.2.1
    omega
  unfold x_spec_l14Locks okLocks
  rw [each_alli (b := .inr ()) w.locks (fun s k => decide (k = -1) || ((decide (0 ≤ k ∧ k ≤ (w.tasks.length : Int) - 1) && decide ((el w.tasks k.toNat).pc = 1)) && decide (stripe (el w.tasks k.toNat).c.doc w.locks.length = (s : Int)))) (fun x k hk hx => by
    unfold x_spec_l14Locks_f0 x_spec_l14Locks_b0
    rw [hx]
    by_cases h1 : x = -1
    · rw [cd_t h1, decide_eq_true h1]; rfl
    · rw [cd_f h1, decide_eq_false h1, xg_I (by omega) (by omega), s_In, Option.bind_some]
      by_cases h2 : 0 ≤ x ∧ x ≤ (w.tasks.length : Int) - 1
      · rw [decide_eq_true h2, xg_of ⟨h2.1, by omega⟩, xg_of ⟨h2.1, by omega⟩, s_StripeOf _ _ (hdoc (by omega))]
        simp only [Bool.not_true, cond_false, Option.bind_some, cs_, co_, Bool.true_and, Bool.false_or]
        cases decide ((el w.tasks x.toNat).pc = 1) <;> cases decide (stripe (el w.tasks x.toNat).c.doc (w.locks.length : Int) = (k : Int)) <;> rfl
      · rw [decide_eq_false h2]; rfl), Option.bind_some]
  cases allI (fun s k => decide (k = -1) || ((decide (0 ≤ k ∧ k ≤ (w.tasks.length : Int) - 1) && decide ((el w.tasks k.toNat).pc = 1)) && decide (stripe (el w.tasks k.toNat).c.doc w.locks.length = (s : Int)))) 0 w.locks with
  | false => rfl
  | true =>
    simp only [cond_true, Sum.elim_inl, Bool.true_and]
    rw [each_alli (b := .inr false) w.tasks (fun k t => !(decide (t.pc = 1) && !decide (el w.locks (stripe t.c.doc w.locks.length).toNat = (k : Int)))) (fun x k hk hx => by
      unfold x_spec_l14Locks_f1 x_spec_l14Locks_b1
      have h2 := hst x.c.doc
      rw [hx, s_StripeOf _ _ (hx ▸ hdoc hk), Option.bind_some, xg_of ⟨h2.1, h2.2⟩]
      simp only [Option.bind_some, cs_, ca_]
      cases decide (x.pc = 1) <;> cases decide (el w.locks (stripe x.c.doc (w.locks.length : Int)).toNat = (k : Int)) <;> rfl), Option.bind_some]
    cases allI (fun k t => !(decide (t.pc = 1) && !decide (el w.locks (stripe t.c.doc w.locks.length).toNat = (k : Int)))) 0 w.tasks <;> rfl
-- worlds
noncomputable def okWorld (w : DWorld) : Bool :=
  (((okHub w.h && decide (1 ≤ w.locks.length ∧ w.locks.length ≤ 4)) && decide (w.tasks.length ≤ 10)) && decide (0 ≤ w.step ∧ w.step ≤ 1000000)) && (w.tasks.all okTask && (okSteps w.tasks w.step && (okLocks w && okQueues w)))
theorem fill_loop (n : Nat) : eachN x_impl_WorldOk_f0 (fun (s : List Int) => (s : List Int)) (List.replicate n (0 : Int)).length 0 (List.replicate n (0 : Int)) = some (List.replicate n (-1)) := by
  rw [each_run (F := x_impl_WorldOk_f0) (e := fun (s : List Int) => (s : List Int)) (List.replicate n (0 : Int)) (fun r k s => s.length = k + r.length) (fun r k s => s.take k ++ List.replicate r.length (-1)) (fun s h => by rw [List.take_of_length_le (by simp at h ⊢; omega)]; simp) (fun x r k s hk hx h => by
    refine .inl ⟨s.set k (-1), ?_, by rw [List.length_set, h]; simp only [List.length_cons]; omega, ?_⟩
    · unfold x_impl_WorldOk_f0 x_impl_WorldOk_b0
      simp only [List.length_cons] at h
      rw [xg_of ⟨by omega, by omega⟩]
    · simp only [List.length_cons] at h ⊢
      rw [List.take_add_one, List.take_set_of_le (Nat.le_refl _), List.getElem?_set_self (by omega), List.replicate_succ]
      simp) (List.replicate n (0 : Int)) (by simp)]
  simp
theorem i_WorldOk (w : DWorld) (hm : smDWorld w) (hq : w.queues.length ≤ 1048576) : x_impl_WorldOk w = some (okWorld w) := by
  unfold x_impl_WorldOk okWorld
  rw [i_HubOk w.h hm.1]
  simp only [i_within, Option.bind_some, cs_, co_]
  by_cases hc : ((okHub w.h = true ∧ 1 ≤ w.locks.length ∧ w.locks.length ≤ 4) ∧ w.tasks.length ≤ 10) ∧ 0 ≤ w.step ∧ w.step ≤ 1000000
  · obtain ⟨⟨⟨h1, h2⟩, h3⟩, h4⟩ := hc
    rw [h1, decide_eq_true (p := 1 ≤ (w.locks.length : Int) ∧ (w.locks.length : Int) ≤ 4) (by omega), decide_eq_false (p := (10 : Int) < (w.tasks.length : Int)) (by omega), decide_eq_true h4, decide_eq_true h2, decide_eq_true h3]
    simp only [Bool.not_true, Bool.or_self, cond_false, Bool.and_self, Bool.true_and]
    rw [xg_of ⟨by omega, by omega⟩, Int.toNat_natCast, fill_loop, Option.bind_some]
    rw [each_run (F := x_impl_WorldOk_f1 w) (e := fun s => (Sum.inl s : Sum (List Int) Bool)) w.tasks (fun r k s => s.length = w.locks.length) (fun r k s => told3 (if r.all okTask then lockIn k s (r.map (slotOf w.locks.length)) else none)) (fun _ _ => rfl) (fun x r k s hk hx hs => by
      unfold x_impl_WorldOk_f1 x_impl_WorldOk_b1
      have hd : x.c.doc.size ≤ 9223372036854775806 := by
        have := hm.2.2.2.1.2 _ (el_mem hk)
        rw [hx] at this
        have h2 : x.c.doc.size ≤ 1099511627776 := this.1.2.1
        omega
      have hst := stripe_bd (s := x.c.doc) (n := (w.locks.length : Int)) (by omega)
      rw [hx]
      rw [i_TaskOk, Option.bind_some, List.all_cons]
      cases okTask x with
      | false => exact .inr rfl
      | true =>
        simp only [Bool.not_true, cond_false, Bool.true_and, List.map_cons]
        by_cases hp : x.pc = 1
        · rw [cd_t hp, i_StripeOf _ _ hd, Option.bind_some, xg_of ⟨hst.1, by omega⟩, xg_of ⟨hst.1, by omega⟩]
          have e : slotOf w.locks.length x = some (stripe x.c.doc w.locks.length).toNat := by unfold slotOf; rw [if_pos hp]
          by_cases h5 : el s (stripe x.c.doc w.locks.length).toNat = -1
          · exact .inl ⟨s.set (stripe x.c.doc w.locks.length).toNat k, by rw [decide_eq_true h5]; rfl, by rw [List.length_set]; exact hs, by rw [e, lockIn, if_pos h5]⟩
          · exact .inr (by rw [decide_eq_false h5, e, lockIn, if_neg h5]; simp [told3])
        · have e : slotOf w.locks.length x = none := by unfold slotOf; rw [if_neg hp]
          exact .inl ⟨s, by rw [cd_f hp], hs, by rw [e, lockIn]⟩) (List.replicate w.locks.length (-1)) (by simp), Option.bind_some]
    cases hall : w.tasks.all okTask with
    | false => rfl
    | true =>
      simp only [if_true, Bool.true_and]
      have hiff := okLocks_iff w h2.1
      cases hL : lockIn 0 (List.replicate w.locks.length (-1)) (w.tasks.map (slotOf w.locks.length)) with
      | none =>
        have : okLocks w = false := by
          cases ho : okLocks w with
          | false => rfl
          | true => rw [hiff.1 ho] at hL; cases hL
        rw [this]
        simp [told3]
      | some H =>
        simp only [told3, Sum.elim_inl]
        rw [i_Equal, i_stepsOk _ _ (by omega), i_queuesOk w (by omega) hq]
        simp only [Option.bind_some, cs_, ca_]
        have : decide (H = w.locks) = okLocks w := by
          by_cases e : H = w.locks
          · rw [decide_eq_true e, (hiff.2 (by rw [hL, e]))]
          · rw [decide_eq_false e]
            cases ho : okLocks w with
            | false => rfl
            | true => rw [hiff.1 ho] at hL; exact absurd (Option.some.inj hL).symm e
        rw [this]
        cases okLocks w <;> cases okSteps w.tasks w.step <;> simp
  · have h1 : (((!okHub w.h || !decide (1 ≤ (w.locks.length : Int) ∧ (w.locks.length : Int) ≤ 4)) || decide ((10 : Int) < (w.tasks.length : Int))) || !decide (0 ≤ w.step ∧ w.step ≤ 1000000)) = true := by
      simp only [Bool.or_eq_true, Bool.not_eq_true', decide_eq_false_iff_not, decide_eq_true_eq]
      refine Classical.byContradiction fun hn => hc ?_
      simp only [not_or, Classical.not_not, Bool.not_eq_false] at hn
      exact ⟨⟨⟨hn.1.1.1, by omega⟩, by omega⟩, hn.2⟩
    have h2 : (((okHub w.h && decide (1 ≤ w.locks.length ∧ w.locks.length ≤ 4)) && decide (w.tasks.length ≤ 10)) && decide (0 ≤ w.step ∧ w.step ≤ 1000000)) = false := by
      refine Bool.eq_false_iff.2 fun h => hc ?_
      simpa only [Bool.and_eq_true, decide_eq_true_eq] using h
    rw [h1, h2]; rfl
theorem s_WorldOk (w : DWorld) (hm : smDWorld w) (hq : w.queues.length ≤ 1048576) : x_spec_WorldOk w = some (okWorld w) := by
  unfold x_spec_WorldOk okWorld
  rw [each_all (b := .inr ()) w.tasks okTask (fun x k hk hx => by
    unfold x_spec_WorldOk_f0 x_spec_WorldOk_b0
    rw [hx]
    rw [s_TaskOk]
    cases okTask x <;> rfl), Option.bind_some, s_HubOk w.h hm.1]
  cases w.tasks.all okTask with
  | false => simp
  | true =>
    simp only [cond_true, Sum.elim_inl, s_In, Option.bind_some, cs_, ca_]
    rw [show decide (1 ≤ (w.locks.length : Int) ∧ (w.locks.length : Int) ≤ 4) = decide (1 ≤ w.locks.length ∧ w.locks.length ≤ 4) from decide_eq_decide.2 (by omega), show decide ((w.tasks.length : Int) ≤ 10) = decide (w.tasks.length ≤ 10) from decide_eq_decide.2 (by omega)]
    cases okHub w.h with
    | false => rfl
    | true =>
      by_cases h2 : 1 ≤ w.locks.length ∧ w.locks.length ≤ 4
      · by_cases h3 : w.tasks.length ≤ 10
        · rw [decide_eq_true h2, decide_eq_true h3, s_Steps w (by omega), s_Locks w hm h2.1 (by omega), s_Queues w (by omega) hq]
          cases decide (0 ≤ w.step ∧ w.step ≤ 1000000) <;> cases okSteps w.tasks w.step <;> cases okLocks w <;> simp
        · rw [decide_eq_false h3]; simp
      · rw [decide_eq_false h2]; simp
end Go.Proofs.YtjbonmmmcnpjiaaGreatDoor
