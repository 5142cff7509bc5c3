/- What the difference, the common signs, the cost and the nearness of two texts are. No condition. -/
import Derived.Test.YthnnhoabdhhkaaaMf
import Derived.Test.YthnnhoabdhhkaaaMh
namespace Go.Proofs.Ythnnhoabdhhkaaa

theorem kept_loop {a : List Int} {o : List DPart} (ho : kinds o) (hl : fromOf o = a.length) (ha : a.length ≤ 60) {r : List DPart × Bool} (hr : r.1 = o) (hlen : o.length ≤ 1000) :
    eachN (x_spec_Common_f0 a r) (fun (s124 : List Int × Int) => (s124.1 : List Int)) r.1.length 0 ([], 0) = some (kept o a) := by
  rw [hr]
  have hb := each_run (F := x_spec_Common_f0 a r) (e := fun (s : List Int × Int) => s.1) o (fun q k s => kinds q ∧ 0 ≤ s.2 ∧ s.2 + fromOf q = a.length ∧ (s.1.length : Int) ≤ s.2) (fun q k s => s.1 ++ kept q (a.drop s.2.toNat)) (fun s _ => by simp [kept]) (fun x q k s hk hx hP => by
    obtain ⟨out, at_⟩ := s
    obtain ⟨h1, h2, h3, h4⟩ := hP
    have hq : kinds q := fun y hy => h1 y (by simp [hy])
    have hn := from_nn hq
    have e1 : fromOf (x :: q) = pFrom x + fromOf q := rfl
    simp only at h2 h3 h4 ⊢
    rw [e1] at h3
    obtain ⟨g1, g2, g3⟩ := h1 x (by simp)
    have e2 : pFrom x = x.n := by
      unfold pFrom pKeep pDrop
      rcases g1 with g | g | g
      · simp [g]
      · simp [g, g3 g]
      · simp [g]
    rw [e2] at h3
    unfold x_spec_Common_f0 x_spec_Common_b0
    rw [hr, hx]
    simp only
    have e3 : (at_ + x.n).toNat = at_.toNat + x.n.toNat := by omega
    have e4 : (a.take (at_.toNat + x.n.toNat)).drop at_.toNat = (a.drop at_.toNat).take x.n.toNat := by rw [List.drop_take]; congr 1; omega
    by_cases hk1 : x.kind = 1
    · rw [cd_t hk1, e3, e4, xg_I (by omega) (by omega), xg_of ⟨by omega, by omega, by omega⟩, xg_of (by simp; omega), xg_I (by omega) (by omega)]
      refine .inl ⟨_, rfl, ⟨hq, by simp only; omega, by simp only; omega, by simp; omega⟩, ?_⟩
      simp only [kept, hk1, if_true, e3, ← List.drop_drop, List.append_assoc]
    · rw [cd_f hk1, xg_I (by omega) (by omega)]
      refine .inl ⟨_, rfl, ⟨hq, by simp only; omega, by simp only; omega, by simp only; omega⟩, ?_⟩
      simp only [kept, hk1, if_false, e3, ← List.drop_drop]) ([], 0) ⟨ho, by simp, by simp [hl], by simp⟩
  simpa using hb
theorem s_Common (a b : List Int) : x_spec_Common a b = some (if okDiff a b then comm a b else []) := by
  unfold x_spec_Common
  rw [s_Diff, Option.bind_some]
  cases h : okDiff a b with
  | false => rfl
  | true =>
    obtain ⟨h1, h2, _, _⟩ := okDiff_get h
    have hop := dparts_op h
    have hk := okOp_kinds hop
    have h3 := okParts_len (okOp_parts (okOp_nrm hop))
    simp only [if_true, Bool.not_true, cond_false]
    rw [kept_loop (o := nrm (dparts a b)) (nrm_kinds hk) (by rw [from_nrm hk]; exact (dparts_sum a b).1) h1 rfl (by omega)]
    rw [kept_nrm hk, kept_comm _ a b (Nat.le_refl _)]; rfl
def cost (a b : List Int) : Int := if okDiff a b then (a.length : Int) + b.length - 2 * (comm a b).length else -1
theorem i_Cost (a b : List Int) : x_impl_Cost a b = some (cost a b) := by
  unfold x_impl_Cost cost
  rw [i_diffOk, Option.bind_some]
  cases h : okDiff a b with
  | false => rfl
  | true =>
    obtain ⟨h1, h2, _, _⟩ := okDiff_get h
    have h3 := comm_len _ a b (Nat.le_refl _)
    simp only [if_true, Bool.not_true, cond_false]
    rw [xg_I (by omega) (by omega), i_Common, h, Option.bind_some, if_pos rfl, xg_I (by omega) (by omega), xg_I (by omega) (by omega)]
theorem s_Cost (a b : List Int) : x_spec_Cost a b = some (cost a b) := by
  unfold x_spec_Cost cost
  rw [s_Fit, Option.bind_some]
  cases h : okDiff a b with
  | false => rfl
  | true =>
    obtain ⟨h1, h2, _, _⟩ := okDiff_get h
    have h3 := comm_len _ a b (Nat.le_refl _)
    simp only [if_true, Bool.not_true, cond_false]
    rw [xg_I (by omega) (by omega), s_Common, h, Option.bind_some, if_pos rfl, xg_I (by omega) (by omega), xg_I (by omega) (by omega)]
def near (a b : List Int) : Int := if okDiff a b then (if (a.length : Int) + b.length = 0 then 100 else 200 * (comm a b).length / ((a.length : Int) + b.length)) else -1
theorem i_Near (a b : List Int) : x_impl_Near a b = some (near a b) := by
  unfold x_impl_Near near
  rw [i_diffOk, Option.bind_some]
  cases h : okDiff a b with
  | false => rfl
  | true =>
    obtain ⟨h1, h2, _, _⟩ := okDiff_get h
    have h3 := comm_len _ a b (Nat.le_refl _)
    simp only [if_true, Bool.not_true, cond_false]
    rw [xg_I (by omega) (by omega)]
    by_cases h0 : (a.length : Int) + b.length = 0
    · rw [cd_t h0, if_pos h0]
    · rw [cd_f h0, if_neg h0, i_Common, h, Option.bind_some, if_pos rfl, xg_I (by omega) (by omega), xg_I (by omega) (by omega), xg_of ⟨by omega, by omega, by omega⟩]
theorem s_Near (a b : List Int) : x_spec_Near a b = some (near a b) := by
  unfold x_spec_Near near
  rw [s_Fit, Option.bind_some]
  cases h : okDiff a b with
  | false => rfl
  | true =>
    obtain ⟨h1, h2, _, _⟩ := okDiff_get h
    have h3 := comm_len _ a b (Nat.le_refl _)
    simp only [if_true, Bool.not_true, cond_false]
    rw [xg_I (by omega) (by omega)]
    by_cases h0 : (a.length : Int) + b.length = 0
    · rw [cd_t h0, if_pos h0]
    · rw [cd_f h0, if_neg h0, s_Common, h, Option.bind_some, if_pos rfl, xg_I (by omega) (by omega), xg_I (by omega) (by omega), xg_of ⟨by omega, by omega, by omega⟩]
theorem lenI (l : List Int) : lenL szI l = l.length := lenL_z (fun _ => rfl) l

theorem ex_FnExactDiff (a b : List Int) (_ : wfL wfI a) (_ : wfL wfI b) (_ : a.length ≤ 1048576) (_ : b.length ≤ 1048576) : ∃ r, x_spec_Diff a b = some r ∧ x_impl_Diff a b = some r ∧ lenL szDPart r.1 ≤ 1000000000 := by
  refine ⟨_, s_Diff a b, i_Diff a b, ?_⟩
  cases h : okDiff a b with
  | false => simp [lenL, sumL]
  | true => have := okOp_sz (okOp_nrm (dparts_op h)); simp only [if_true]; omega
theorem ex_FnExactCommon (a b : List Int) (_ : wfL wfI a) (_ : wfL wfI b) (_ : a.length ≤ 1048576) (_ : b.length ≤ 1048576) : ∃ r, x_spec_Common a b = some r ∧ x_impl_Common a b = some r ∧ lenL szI r ≤ 1000000000 := by
  refine ⟨_, s_Common a b, i_Common a b, ?_⟩
  rw [lenI]
  split
  · have := comm_len _ a b (Nat.le_refl _); omega
  · simp
theorem ex_FnExactCost (a b : List Int) (_ : wfL wfI a) (_ : wfL wfI b) (_ : a.length ≤ 1048576) (_ : b.length ≤ 1048576) : ∃ r, x_spec_Cost a b = some r ∧ x_impl_Cost a b = some r := ⟨_, s_Cost a b, i_Cost a b⟩
theorem ex_FnExactNear (a b : List Int) (_ : wfL wfI a) (_ : wfL wfI b) (_ : a.length ≤ 1048576) (_ : b.length ≤ 1048576) : ∃ r, x_spec_Near a b = some r ∧ x_impl_Near a b = some r := ⟨_, s_Near a b, i_Near a b⟩
end Go.Proofs.Ythnnhoabdhhkaaa
