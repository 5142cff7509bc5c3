/- Taking back what took back. No condition. -/
import Derived.Test.YthfkcpdechjmnaaMs
namespace Go.Proofs.Ythfkcpdechjmnaa

def invG : List (List Int × Nat) → List Int → List (List Int × Nat)
  | [], _ => []
  | [g], t => [(t.take g.2, g.1.length)]
  | g :: r, t => (t.take g.2, g.1.length) :: invG r (t.drop (g.2 + 1))
theorem invG_cons {g : List Int × Nat} {r : List (List Int × Nat)} (h : r ≠ []) (t : List Int) : invG (g :: r) t = (t.take g.2, g.1.length) :: invG r (t.drop (g.2 + 1)) := by
  cases r with
  | nil => exact absurd rfl h
  | cons x r => rfl
theorem invG_rep {r : List (List Int × Nat)} (h : r ≠ []) : ∀ (k : Nat) (t : List Int), invG (List.replicate k ([], 0) ++ r) t = List.replicate k ([], 0) ++ invG r (t.drop k)
  | 0, t => by simp
  | k + 1, t => by
    rw [List.replicate_succ, List.cons_append, invG_cons (by simp [h]), invG_rep h k]
    simp only [List.take_zero, List.length_nil, List.cons_append, Nat.zero_add, List.drop_drop]
    rw [Nat.add_comm 1 k]
theorem invG_gfr : ∀ {o : List DPart}, kinds o → ∀ (p : List Int) (d : Nat) (t : List Int), invG (gfr o p d) t = gfr (invL o (t.drop d)) (t.take d) p.length
  | [], _, p, d, t => by simp [gfr_nil, invG, invL]
  | q :: o, h, p, d, t => by
    have ho : kinds o := fun x hx => h x (by simp [hx])
    obtain ⟨hk, hn, h20⟩ := h q (by simp)
    unfold invL
    rcases hk with hk | hk | hk
    · rw [if_pos hk]
      by_cases h0 : 0 < q.n
      · rw [gfr_keep (by omega) (by omega) h0, gfr_keep (by omega) (by omega) h0, invG_cons (by simp [gfr_ne]), invG_rep (gfr_ne _ _ _), invG_gfr ho]
        simp only [List.take_zero, List.length_nil, List.drop_drop, Nat.add_zero]
        rw [show d + 1 + (q.n.toNat - 1) = d + q.n.toNat by omega]
      · rw [gfr_keep0 (by omega) (by omega) (by omega), gfr_keep0 (by omega) (by omega) (by omega), invG_gfr ho]
        have : q.n.toNat = 0 := by omega
        simp [this]
    · rw [if_neg (by omega), if_neg (by omega), gfr_put hk, gfr_drop rfl, invG_gfr ho, List.length_append]
      simp
    · rw [if_neg (by omega), if_pos hk, gfr_drop hk, gfr_put rfl, invG_gfr ho]
      simp only [List.drop_drop]
      rw [← List.take_add]
theorem invL_nn {o : List DPart} (h : kinds o) : ∀ (t : List Int), ∀ q ∈ invL o t, 0 ≤ q.n := by
  induction o with
  | nil => intro t q hq; cases hq
  | cons p o ih =>
    intro t q hq
    have hp := h p (by simp)
    have ho : kinds o := fun x hx => h x (by simp [hx])
    unfold invL at hq
    split at hq
    · rcases List.mem_cons.1 hq with rfl | hq
      · exact hp.2.1
      · exact ih ho _ q hq
    · split at hq
      · rcases List.mem_cons.1 hq with rfl | hq
        · exact Int.le_refl _
        · exact ih ho _ q hq
      · rcases List.mem_cons.1 hq with rfl | hq
        · simp
        · exact ih ho _ q hq
theorem nrm_invL {o : List DPart} (h : kinds o) (t : List Int) : nrm (invL (nrm o) t) = nrm (invL o t) := by
  refine nrm_eq (invL_nn (nrm_kinds h) t) (invL_nn h t) ?_
  have h1 := invG_gfr h [] 0 t
  have h2 := invG_gfr (nrm_kinds h) [] 0 t
  simp only [List.drop_zero, List.take_zero, List.length_nil] at h1 h2
  rw [gf_gfr, gf_gfr, ← h1, ← h2, ← gf_gfr, ← gf_gfr, gf_nrm (kinds_nn h)]

theorem invL_appl : ∀ {o : List DPart} {t : List Int}, (∀ p ∈ o, okPart p = true) → fromOf o = t.length → appl (invL o t) (appl o t) = t ∧ invL (invL o t) (appl o t) = o
  | [], t, _, hf => by
    have : t = [] := List.length_eq_zero_iff.1 (by have : fromOf [] = 0 := rfl; omega)
    subst this; exact ⟨rfl, rfl⟩
  | p :: o, t, h, hf => by
    have ho : ∀ q ∈ o, okPart q = true := fun q hq => h q (by simp [hq])
    have hp := h p (by simp)
    have h0 := from_ok ho
    rw [from_cons] at hf
    obtain ⟨k, m, s⟩ := p
    rcases okPart_cases hp with ⟨k1, k2, k3, k4⟩ | ⟨k1, k2, k3, k4⟩ | ⟨k1, k2, k3, k4⟩ <;> simp only at k1 k2 k3 k4
    · subst k1 k4
      have hf' : m + fromOf o = t.length := by simpa [pFrom, pKeep, pDrop] using hf
      obtain ⟨i1, i2⟩ := invL_appl (o := o) (t := t.drop m.toNat) ho (by rw [List.length_drop]; omega)
      have lt : (t.take m.toNat).length = m.toNat := by rw [List.length_take]; omega
      simp only [appl, invL, if_true]
      rw [List.take_left' lt, List.drop_left' lt, i1, i2, List.take_append_drop]
      exact ⟨rfl, rfl⟩
    · subst k1 k2
      have hf' : fromOf o = t.length := by simpa [pFrom, pKeep, pDrop] using hf
      obtain ⟨i1, i2⟩ := invL_appl (o := o) (t := t) ho hf'
      simp only [appl, invL, if_true, Int.reduceEq, if_false, Int.toNat_natCast]
      rw [List.take_left' rfl, List.drop_left' rfl, i1, i2]
      exact ⟨rfl, rfl⟩
    · subst k1 k4
      have hf' : m + fromOf o = t.length := by simpa [pFrom, pKeep, pDrop] using hf
      obtain ⟨i1, i2⟩ := invL_appl (o := o) (t := t.drop m.toNat) ho (by rw [List.length_drop]; omega)
      have lt : (t.take m.toNat).length = m.toNat := by rw [List.length_take]; omega
      simp only [appl, invL, if_true, Int.reduceEq, if_false]
      rw [i1, i2, List.take_append_drop, lt]
      exact ⟨rfl, by rw [Int.toNat_of_nonneg k2]⟩

/-- The inverse, and its inverse. -/
theorem fits_nrm {o : List DPart} {t : List Int} (h : fits o t = true) : fits (nrm o) t = true := by
  obtain ⟨h1, h2, h3⟩ := fits_get h
  unfold fits
  rw [okOp_nrm h1, h2, from_nrm (okOp_kinds h1), h3]
  simp
theorem inv_fst {o : List DPart} {t : List Int} (h : fits o t = true) : inv o t = (nrm (invL (nrm o) t), true) := if_pos h
theorem inv_facts {o : List DPart} {t : List Int} (h : fits o t = true) : okOp (inv o t).1 = true ∧ isNorm (inv o t).1 = true ∧ fromOf (inv o t).1 = toOf o ∧ toOf (inv o t).1 = fromOf o ∧ appl (inv o t).1 (appl o t) = t := by
  obtain ⟨h1, h2, h3⟩ := fits_get h
  obtain ⟨g1, g2, g3⟩ := inv_ok h
  have hk := okOp_kinds g1
  rw [inv_fst h]
  have hn := okOp_nrm h1
  have e := invL_appl (o := nrm o) (t := t) (fun p hp => okParts_mem (okOp_parts hn) hp) (by rw [from_nrm (okOp_kinds h1), h3])
  refine ⟨okOp_nrm g1, ?_, by rw [from_nrm hk, g2], by rw [to_nrm hk, g3], ?_⟩
  · unfold isNorm
    rw [okOp_nrm g1, nrm_nrm hk]
    simp
  · rw [appl_nrm hk, ← appl_nrm (okOp_kinds h1) t, e.1]
theorem all_appl7 : ∀ {o : List DPart}, (∀ p ∈ o, p.kind = 2 → p.signs.all okSign = true) → ∀ {t : List Int}, t.all okSign = true → (appl o t).all okSign = true
  | [], _, t, _ => rfl
  | q :: o, h, t, ht => by
    have hd : ∀ k, (t.drop k).all okSign = true := fun k => List.all_eq_true.2 fun x hx => List.all_eq_true.1 ht x (List.mem_of_mem_drop hx)
    have htk : ∀ k, (t.take k).all okSign = true := fun k => List.all_eq_true.2 fun x hx => List.all_eq_true.1 ht x (List.mem_of_mem_take hx)
    have ih : ∀ {t : List Int}, t.all okSign = true → (appl o t).all okSign = true := fun ht => all_appl7 (fun p hp => h p (by simp [hp])) ht
    unfold appl
    split
    · rw [List.all_append, htk, ih (hd _)]; rfl
    · split
      · rename_i hk; rw [List.all_append, h q (by simp) hk, ih ht]; rfl
      · exact ih (hd _)
theorem okText_appl7 {o : List DPart} {t : List Int} (h : fits o t = true) : okText (appl o t) = true := by
  obtain ⟨h1, h2, h3⟩ := fits_get h
  have h4 := appl_len (okOp_kinds h1) h3
  have h5 := okOp_to h1
  have h6 := all_appl7 (okParts_signs (okOp_parts h1)) (okText_signs h2)
  unfold okText
  rw [h6]; simp; omega
theorem appl_ok {o : List DPart} {t : List Int} (h : fits o t = true) : okText (appl o t) = true ∧ ((appl o t).length : Int) = toOf o := by
  obtain ⟨h1, h2, h3⟩ := fits_get h
  exact ⟨okText_appl7 h, appl_len (okOp_kinds h1) h3⟩
theorem inv_fits {o : List DPart} {t : List Int} (h : fits o t = true) : fits (inv o t).1 (appl o t) = true := by
  obtain ⟨h1, h2, h3, h4, h5⟩ := inv_facts h
  obtain ⟨g1, g2⟩ := appl_ok h
  unfold fits
  rw [h1, g1, h3, g2]
  simp
theorem inv_inv {o : List DPart} {t : List Int} (h : fits o t = true) : (inv (inv o t).1 (appl o t)).1 = nrm o := by
  obtain ⟨h1, h2, h3⟩ := fits_get h
  obtain ⟨g1, g2, g3⟩ := inv_ok h
  have hn := okOp_nrm h1
  have e := invL_appl (o := nrm o) (t := t) (fun p hp => okParts_mem (okOp_parts hn) hp) (by rw [from_nrm (okOp_kinds h1), h3])
  rw [inv_fst (inv_fits h), inv_fst h]
  simp only
  rw [nrm_invL (nrm_kinds (okOp_kinds g1)), nrm_invL (okOp_kinds g1), ← appl_nrm (okOp_kinds h1) t, e.2, nrm_nrm (okOp_kinds h1)]
theorem inv_nrm {o : List DPart} {t : List Int} (h : fits o t = true) : (inv (nrm o) t).1 = (inv o t).1 := by
  rw [inv_fst (fits_nrm h), inv_fst h, nrm_nrm (okOp_kinds (fits_get h).1)]
end Go.Proofs.Ythfkcpdechjmnaa
