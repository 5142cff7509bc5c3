/- Normal forms by the reference; what an operation does to a text, to a place, and where it touches a text. No condition. -/
import Derived.Test.YtjbonmmmcnpjiaaGreatDoorMh
import Derived.Test.YtjbonmmmcnpjiaaGreatDoorG3
namespace Go.Proofs.YtjbonmmmcnpjiaaGreatDoor

theorem s_fold {o : List DPart} (ho : ∀ p ∈ o, okPart p = true) (hl : o.length < 1000000) :
    eachN (x_spec_OpNorm_f0 o) (fun (s180 : List DPart × List Int × Int) => ((s180.1, s180.2.1, s180.2.2) : List DPart × List Int × Int)) o.length 0 ([], [], 0) = some ((o.foldl bPart bNil).list, (o.foldl bPart bNil).put, (o.foldl bPart bNil).drop) := by
  refine each_run (F := x_spec_OpNorm_f0 o) o (fun r k s => (∀ p ∈ r, okPart p = true) ∧ k + r.length = o.length ∧ Binv ⟨s.1, s.2.1, s.2.2⟩ k) (fun r _ s => ((r.foldl bPart ⟨s.1, s.2.1, s.2.2⟩).list, (r.foldl bPart ⟨s.1, s.2.1, s.2.2⟩).put, (r.foldl bPart ⟨s.1, s.2.1, s.2.2⟩).drop)) (fun _ _ => rfl) (fun x r k s hk hx hP => ?_) _ ⟨ho, by simp, binv_nil⟩
  obtain ⟨L, p, d⟩ := s
  obtain ⟨h1, h2, h3⟩ := hP
  have hx1 := h1 x (by simp)
  have hf := okPart_fair hx1
  simp only [List.length_cons] at h2
  simp only at h3 ⊢
  refine .inl ⟨((bPart ⟨L, p, d⟩ x).list, (bPart ⟨L, p, d⟩ x).put, (bPart ⟨L, p, d⟩ x).drop), ?_, ⟨fun q hq => h1 q (by simp [hq]), by omega, binv_part h3 hf⟩, rfl⟩
  unfold x_spec_OpNorm_f0 x_spec_OpNorm_b0 bPart
  rw [hx]
  simp only
  rcases okPart_cases hx1 with ⟨k1, k2, k3, k4⟩ | ⟨k1, k2, k3, k4⟩ | ⟨k1, k2, k3, k4⟩
  · rw [cd_t k1, if_neg (by omega), if_neg (by omega), s_Keep h3 (by omega) (by omega) (by omega)]; rfl
  · rw [cd_f (by omega), cd_t k1, if_pos k1, s_Put h3 (by omega) (by omega)]; rfl
  · rw [cd_f (by omega), cd_f (by omega), if_neg (by omega), if_pos k1, s_Drop h3 (by omega) (by omega) (by omega)]; rfl
theorem s_OpNorm (o : List DPart) : x_spec_OpNorm o = some (if okOp o then nrm o else []) := by
  unfold x_spec_OpNorm
  rw [s_OpOk, Option.bind_some]
  cases h : okOp o with
  | false => rfl
  | true =>
    have h1 := okOp_parts h
    have h2 := okParts_len h1
    simp only [Bool.not_true, cond_false, if_true]
    rw [s_fold (fun p hp => okParts_mem h1 hp) (by omega), Option.bind_some]
    have := s_Done (binv_fold (okParts_fair h1) binv_nil) (by omega)
    simp only
    rw [this]; rfl
-- What becomes of a text
def fits (o : List DPart) (t : List Int) : Bool := okOp o && okText t && decide (fromOf o = t.length)
theorem fits_get {o : List DPart} {t : List Int} (h : fits o t = true) : okOp o = true ∧ okText t = true ∧ fromOf o = t.length := by
  unfold fits at h
  simp only [Bool.and_eq_true, decide_eq_true_eq] at h
  exact ⟨h.1.1, h.1.2, h.2⟩
theorem okText_len {t : List Int} (h : okText t = true) : t.length ≤ 200 := by
  unfold okText at h
  simp only [Bool.and_eq_true, decide_eq_true_eq] at h
  exact h.1
theorem from_cons (x : DPart) (o : List DPart) : fromOf (x :: o) = pFrom x + fromOf o := rfl
theorem to_cons (x : DPart) (o : List DPart) : toOf (x :: o) = pTo x + toOf o := rfl
theorem from_ok {o : List DPart} (h : ∀ p ∈ o, okPart p = true) : 0 ≤ fromOf o := sumI_nn fun x hx => (bd_part (h x hx)).2.2.2.1.1
theorem drop_toNat {t : List Int} {a n : Int} (ha : 0 ≤ a) (hn : 0 ≤ n) : t.drop (a + n).toNat = (t.drop a.toNat).drop n.toNat := by rw [List.drop_drop]; congr 1; omega
theorem take_toNat {t : List Int} {a n : Int} (ha : 0 ≤ a) (hn : 0 ≤ n) : (t.take (a + n).toNat).drop a.toNat = (t.drop a.toNat).take n.toNat := by rw [List.drop_take]; congr 1; omega
-- Places
def shiftL (a : Int) (after : Bool) : List DPart → Int → Int → Int
  | [], _, j => j
  | q :: o, i, j => if q.kind = 1 then (if a < i + q.n then j + a - i else shiftL a after o (i + q.n) (j + q.n)) else if q.kind = 2 then (if a = i ∧ after = false then j else shiftL a after o i (j + q.signs.length)) else (if a < i + q.n then j else shiftL a after o (i + q.n) j)
def shift (o : List DPart) (a : Int) (after : Bool) : Int × Bool := if okOp o = true ∧ 0 ≤ a ∧ a ≤ fromOf o then (shiftL a after (nrm o) 0 0, true) else (0, false)
end Go.Proofs.YtjbonmmmcnpjiaaGreatDoor
