/- Normal forms by the reference; what an operation does to a text, to a place, and where it touches a text. No condition. -/
import Derived.Test.YtjbonmmmcnpjiaaGreatDoorMh
import Derived.Test.YtjbonmmmcnpjiaaGreatDoorG3
namespace Go.Proofs.YtjbonmmmcnpjiaaGreatDoor

theorem s_fold {o : List DPart} (ho : ∀ p ∈ o, okPart p = true) (hl : o.length < 1000000) :
    eachN (x_spec_OpNorm_f0 o) (fun (s180 : List DPart × List Int × Int) => ((s180.1, s180.2.1, s180.2.2) : List DPart × List Int × Int)) o.length 0 ([], [], 0) = some ((o.foldl bPart bNil).list, (o.foldl bPart bNil).put, (o.foldl bPart bNil).drop) := by
  refine each_run (F := x_spec_OpNorm_f0 o) o (fun r k s => (∀ p ∈ r, okPart p = true) ∧ k + r.length = o.length ∧ Binv ⟨s.1, s.2.1, s.2.2⟩ k) (fun r _ s => ((r.foldl bPart ⟨s.1, s.2.1, s.2.2⟩).list, (r.foldl bPart ⟨s.1, s.2.1, s.2.2⟩).put, (r.foldl bPart ⟨s.1, s.2.1, s.2.2⟩).drop)) (fun _ _ => rfl) (fun x r k s hk hx hP => ?_) _ ⟨ho, by simp, binv_nil⟩
  obtain ⟨L, p, d⟩ := s
  obtain ⟨h1, h2, h3⟩ := hP
  have hx1 := h1 x (by simp)
  have hf := okPart_fair hx1
  simp only [List.length_cons] at h2
  simp only at h3 ⊢
  refine .inl ⟨((bPart ⟨L, p, d⟩ x).list, (bPart ⟨L, p, d⟩ x).put, (bPart ⟨L, p, d⟩ x).drop), ?_, ⟨fun q hq => h1 q (by simp [hq]), by omega, binv_part h3 hf⟩, rfl⟩
  unfold x_spec_OpNorm_f0 x_spec_OpNorm_b0 bPart
  rw [hx]
  simp only
  rcases okPart_cases hx1 with ⟨k1, k2, k3, k4⟩ | ⟨k1, k2, k3, k4⟩ | ⟨k1, k2, k3, k4⟩
  · rw [cd_t k1, if_neg (by omega), if_neg (by omega), s_Keep h3 (by omega) (by omega) (by omega)]; rfl
  · rw [cd_f (by omega), cd_t k1, if_pos k1, s_Put h3 (by omega) (by omega)]; rfl
  · rw [cd_f (by omega), cd_f (by omega), if_neg (by omega), if_pos k1, s_Drop h3 (by omega) (by omega) (by omega)]; rfl
theorem s_OpNorm (o : List DPart) : x_spec_OpNorm o = some (if okOp o then nrm o else []) := by
  unfold x_spec_OpNorm
  rw [s_OpOk, Option.bind_some]
  cases h : okOp o with
  | false => rfl
  | true =>
    have h1 := okOp_parts h
    have h2 := okParts_len h1
    simp only [Bool.not_true, cond_false, if_true]
    rw [s_fold (fun p hp => okParts_mem h1 hp) (by omega), Option.bind_some]
    have := s_Done (binv_fold (okParts_fair h1) binv_nil) (by omega)
    simp only
    rw [this]; rfl
theorem s_IsNorm (o : List DPart) : x_spec_IsNorm o = some (okOp o && decide (o = nrm o)) := by
  unfold x_spec_IsNorm
  simp only [s_OpOk, s_OpNorm, s_OpSame, Option.bind_some, cs_, ca_]
  cases h : okOp o
  · simp
  · simp [eq_comm]

-- What becomes of a text
def fits (o : List DPart) (t : List Int) : Bool := okOp o && okText t && decide (fromOf o = t.length)
theorem fits_get {o : List DPart} {t : List Int} (h : fits o t = true) : okOp o = true ∧ okText t = true ∧ fromOf o = t.length := by
  unfold fits at h
  simp only [Bool.and_eq_true, decide_eq_true_eq] at h
  exact ⟨h.1.1, h.1.2, h.2⟩
theorem okText_len {t : List Int} (h : okText t = true) : t.length ≤ 200 := by
  unfold okText at h
  simp only [Bool.and_eq_true, decide_eq_true_eq] at h
  exact h.1
theorem from_cons (x : DPart) (o : List DPart) : fromOf (x :: o) = pFrom x + fromOf o := rfl
theorem from_ok {o : List DPart} (h : ∀ p ∈ o, okPart p = true) : 0 ≤ fromOf o := sumI_nn fun x hx => (bd_part (h x hx)).2.2.2.1.1
theorem drop_toNat {t : List Int} {a n : Int} (ha : 0 ≤ a) (hn : 0 ≤ n) : t.drop (a + n).toNat = (t.drop a.toNat).drop n.toNat := by rw [List.drop_drop]; congr 1; omega
theorem take_toNat {t : List Int} {a n : Int} (ha : 0 ≤ a) (hn : 0 ≤ n) : (t.take (a + n).toNat).drop a.toNat = (t.drop a.toNat).take n.toNat := by rw [List.drop_take]; congr 1; omega
theorem i_apply_loop {o : List DPart} {t : List Int} (ho : ∀ p ∈ o, okPart p = true) (hl : o.length ≤ 600) (ht : t.length ≤ 200) (hf : fromOf o = t.length) :
    eachN (x_impl_Apply_f0 t o) (fun (s238 : List Int × Int) => (s238.1 : List Int)) o.length 0 ([], 0) = some (appl o t) := by
  have h := each_run (F := x_impl_Apply_f0 t o) (e := fun (s : List Int × Int) => s.1) o (fun r k s => (∀ p ∈ r, okPart p = true) ∧ 0 ≤ s.2 ∧ s.2 + fromOf r = t.length ∧ s.1.length ≤ 200 * k ∧ k + r.length = o.length) (fun r _ s => s.1 ++ appl r (t.drop s.2.toNat)) (fun s _ => by simp [appl]) (fun x r k s hk hx hP => by
    obtain ⟨out, a⟩ := s
    obtain ⟨h1, h2, h3, h4, h5⟩ := hP
    simp only at h2 h3 h4 ⊢
    rw [from_cons] at h3
    have hr := from_ok (o := r) (fun p hp => h1 p (by simp [hp]))
    have hx1 := h1 x (by simp)
    have hx2 := okPart_len hx1
    have hr1 : ∀ p ∈ r, okPart p = true := fun p hp => h1 p (by simp [hp])
    simp only [List.length_cons] at h5
    unfold x_impl_Apply_f0 x_impl_Apply_b0
    rw [hx]
    simp only
    unfold pFrom pKeep pDrop at h3
    refine .inl ?_
    rcases okPart_cases hx1 with ⟨k1, k2, k3, k4⟩ | ⟨k1, k2, k3, k4⟩ | ⟨k1, k2, k3, k4⟩
    · simp [k1] at h3
      rw [cd_t k1, xg_I (by omega) (by omega), xg_of ⟨by omega, by omega, by omega⟩, take_toNat h2 k2, xg_of (by simp; omega), xg_I (by omega) (by omega)]
      refine ⟨_, rfl, ⟨hr1, by simp only; omega, by simp only; omega, by simp; omega, by omega⟩, ?_⟩
      simp only [appl, k1, if_true, drop_toNat h2 k2, List.append_assoc]
    · simp [k1] at h3
      rw [cd_f (by omega), cd_f (by omega), xg_of (by omega)]
      refine ⟨_, rfl, ⟨hr1, by simp only; omega, by simp only; omega, by simp; omega, by omega⟩, ?_⟩
      simp [appl, k1]
    · simp [k1] at h3
      rw [cd_f (by omega), cd_t k1, xg_I (by omega) (by omega)]
      refine ⟨_, rfl, ⟨hr1, by simp only; omega, by simp only; omega, by simp only; omega, by omega⟩, ?_⟩
      simp [appl, k1, drop_toNat h2 k2]) ([], 0) ⟨ho, by simp, by simp [hf], by simp, by simp⟩
  simpa using h
theorem i_Apply (o : List DPart) (t : List Int) : x_impl_Apply o t = some (if fits o t then (appl o t, true) else ([], false)) := by
  unfold x_impl_Apply
  simp only [i_OpOk, i_TextOk, i_OpFrom, Option.bind_some, cs_, co_]
  have hc : (!okOp o || (!okText t || !decide ((if okParts o then fromOf o else 0) = (t.length : Int)))) = !fits o t := by
    unfold fits
    cases h : okOp o
    · simp
    · rw [okOp_parts h]; simp
  rw [← Bool.or_assoc] at hc
  rw [hc]
  cases h : fits o t with
  | false => rfl
  | true =>
    obtain ⟨h1, h2, h3⟩ := fits_get h
    have := okParts_len (okOp_parts h1)
    simp only [Bool.not_true, cond_false, if_true]
    rw [i_apply_loop (fun p hp => okParts_mem (okOp_parts h1) hp) (by omega) (okText_len h2) h3]
    rfl
theorem s_Fits (o : List DPart) (t : List Int) : x_spec_l03Fits o t = some (fits o t) := by
  unfold x_spec_l03Fits fits
  simp only [s_OpOk, s_TextOk, s_OpFrom, Option.bind_some, cs_, ca_]
  cases h : okOp o
  · simp
  · rw [okOp_parts h]; simp
theorem s_apply_loop {o : List DPart} {t : List Int} (ho : ∀ p ∈ o, okPart p = true) (hl : o.length ≤ 600) (ht : t.length ≤ 200) (hf : fromOf o = t.length) :
    eachN (x_spec_Apply_f0 t o) (fun (s238 : List Int × Int) => (s238.1 : List Int)) o.length 0 ([], 0) = some (appl o t) := by
  have h := each_run (F := x_spec_Apply_f0 t o) (e := fun (s : List Int × Int) => s.1) o (fun r k s => (∀ p ∈ r, okPart p = true) ∧ 0 ≤ s.2 ∧ s.2 + fromOf r = t.length ∧ s.1.length ≤ 200 * k ∧ k + r.length = o.length) (fun r _ s => s.1 ++ appl r (t.drop s.2.toNat)) (fun s _ => by simp [appl]) (fun x r k s hk hx hP => by
    obtain ⟨out, a⟩ := s
    obtain ⟨h1, h2, h3, h4, h5⟩ := hP
    simp only at h2 h3 h4 ⊢
    rw [from_cons] at h3
    have hr := from_ok (o := r) (fun p hp => h1 p (by simp [hp]))
    have hx1 := h1 x (by simp)
    have hx2 := okPart_len hx1
    have hr1 : ∀ p ∈ r, okPart p = true := fun p hp => h1 p (by simp [hp])
    simp only [List.length_cons] at h5
    unfold x_spec_Apply_f0 x_spec_Apply_b0
    rw [hx]
    simp only
    unfold pFrom pKeep pDrop at h3
    refine .inl ?_
    rcases okPart_cases hx1 with ⟨k1, k2, k3, k4⟩ | ⟨k1, k2, k3, k4⟩ | ⟨k1, k2, k3, k4⟩
    · simp [k1] at h3
      rw [cd_t k1, xg_I (by omega) (by omega), xg_of ⟨by omega, by omega, by omega⟩, take_toNat h2 k2, xg_of (by simp; omega), xg_I (by omega) (by omega)]
      refine ⟨_, rfl, ⟨hr1, by simp only; omega, by simp only; omega, by simp; omega, by omega⟩, ?_⟩
      simp only [appl, k1, if_true, drop_toNat h2 k2, List.append_assoc]
    · simp [k1] at h3
      rw [cd_f (by omega), cd_t k1, xg_of (by omega)]
      refine ⟨_, rfl, ⟨hr1, by simp only; omega, by simp only; omega, by simp; omega, by omega⟩, ?_⟩
      simp [appl, k1]
    · simp [k1] at h3
      rw [cd_f (by omega), cd_f (by omega), xg_I (by omega) (by omega)]
      refine ⟨_, rfl, ⟨hr1, by simp only; omega, by simp only; omega, by simp only; omega, by omega⟩, ?_⟩
      simp [appl, k1, drop_toNat h2 k2]) ([], 0) ⟨ho, by simp, by simp [hf], by simp, by simp⟩
  simpa using h
theorem s_Apply (o : List DPart) (t : List Int) : x_spec_Apply o t = some (if fits o t then (appl o t, true) else ([], false)) := by
  unfold x_spec_Apply
  rw [s_Fits, Option.bind_some]
  cases h : fits o t with
  | false => rfl
  | true =>
    obtain ⟨h1, h2, h3⟩ := fits_get h
    have := okParts_len (okOp_parts h1)
    simp only [Bool.not_true, cond_false, if_true]
    rw [s_apply_loop (fun p hp => okParts_mem (okOp_parts h1) hp) (by omega) (okText_len h2) h3]
    rfl

-- Places
end Go.Proofs.YtjbonmmmcnpjiaaGreatDoor
