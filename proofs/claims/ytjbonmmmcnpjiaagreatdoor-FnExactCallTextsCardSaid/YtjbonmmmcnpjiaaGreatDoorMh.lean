/- Sizes of normal forms; a normal form is an operation. No condition. -/
import Derived.Test.YtjbonmmmcnpjiaaGreatDoorMg
namespace Go.Proofs.YtjbonmmmcnpjiaaGreatDoor

theorem sumI_set {T : Type} [Inhabited T] (c : T → Int) (y : T) : ∀ (l : List T) (i : Nat), i < l.length → sumI c (l.set i y) = sumI c l - c (el l i) + c y
  | x :: l, 0, _ => by simp only [List.set_cons_zero, sumI]; show _ = c x + sumI c l - c x + c y; omega
  | x :: l, i + 1, hi => by
    simp only [List.set_cons_succ, sumI]
    rw [sumI_set c y l i (by simpa using hi)]
    show _ = c x + sumI c l - c (el l i) + c y
    omega
theorem sums_addKeep (L : List DPart) (n : Int) : keepsOf (addKeep L n) = keepsOf L + n ∧ putsOf (addKeep L n) = putsOf L ∧ dropsOf (addKeep L n) = dropsOf L := by
  unfold addKeep keepsOf putsOf dropsOf
  split
  · rename_i h
    have hl : L.length - 1 < L.length := by omega
    rw [sumI_set _ _ _ _ hl, sumI_set _ _ _ _ hl, sumI_set _ _ _ _ hl]
    simp [pKeep, pPut, pDrop, h.2]; omega
  · rw [sumI_app, sumI_app, sumI_app]
    simp [sumI, pKeep, pPut, pDrop]
theorem sums_flush (b : DL02B) (h0 : 0 ≤ b.drop) : keepsOf (flushL b) = keepsOf b.list ∧ putsOf (flushL b) = putsOf b.list + b.put.length ∧ dropsOf (flushL b) = dropsOf b.list + b.drop := by
  unfold flushL keepsOf putsOf dropsOf
  simp only [sumI_app]
  by_cases hp : b.put = []
  · by_cases hd : 0 < b.drop
    · simp [hp, hd, sumI, pKeep, pPut, pDrop]
    · simp [hp, hd, sumI]; omega
  · by_cases hd : 0 < b.drop
    · simp [hp, hd, sumI, pKeep, pPut, pDrop]
    · simp [hp, hd, sumI, pKeep, pPut, pDrop]; omega
theorem sums_part (b : DL02B) (p : DPart) (h0 : 0 ≤ b.drop) (hp : (p.kind = 1 ∨ p.kind = 2 ∨ p.kind = 3) ∧ 0 ≤ p.n) : 0 ≤ (bPart b p).drop ∧ keepsOf (bPart b p).list = keepsOf b.list + pKeep p ∧ putsOf (bPart b p).list + (bPart b p).put.length = putsOf b.list + b.put.length + pPut p ∧ dropsOf (bPart b p).list + (bPart b p).drop = dropsOf b.list + b.drop + pDrop p := by
  unfold bPart pKeep pPut pDrop
  rcases hp.1 with hk | hk | hk
  · simp only [hk]
    simp
    unfold bKeep
    split
    · have h1 := sums_flush b h0
      have h2 := sums_addKeep (flushL b) p.n
      simp; omega
    · have := hp.2; simp; omega
  · simp [hk, bPut]; omega
  · simp [hk, bDrop]; omega
theorem sums_fold : ∀ (o : List DPart) (b : DL02B), 0 ≤ b.drop → (∀ p ∈ o, (p.kind = 1 ∨ p.kind = 2 ∨ p.kind = 3) ∧ 0 ≤ p.n) → 0 ≤ (o.foldl bPart b).drop ∧ keepsOf (o.foldl bPart b).list = keepsOf b.list + keepsOf o ∧ putsOf (o.foldl bPart b).list + (o.foldl bPart b).put.length = putsOf b.list + b.put.length + putsOf o ∧ dropsOf (o.foldl bPart b).list + (o.foldl bPart b).drop = dropsOf b.list + b.drop + dropsOf o
  | [], b, h0, _ => by simp [keepsOf, putsOf, dropsOf, sumI, h0]
  | p :: o, b, h0, h => by
    have h1 := sums_part b p h0 (h p (by simp))
    have h2 := sums_fold o (bPart b p) h1.1 (fun q hq => h q (by simp [hq]))
    rw [List.foldl_cons]
    have e1 : keepsOf (p :: o) = pKeep p + keepsOf o := rfl
    have e2 : putsOf (p :: o) = pPut p + putsOf o := rfl
    have e3 : dropsOf (p :: o) = pDrop p + dropsOf o := rfl
    rw [e1, e2, e3]
    omega
theorem sums_nrm {o : List DPart} (h : kinds o) : keepsOf (nrm o) = keepsOf o ∧ putsOf (nrm o) = putsOf o ∧ dropsOf (nrm o) = dropsOf o := by
  have h1 := sums_fold o bNil (by decide) (fun p hp => ⟨(h p hp).1, (h p hp).2.1⟩)
  have h2 := sums_flush (o.foldl bPart bNil) h1.1
  have e1 : keepsOf bNil.list = 0 := rfl
  have e2 : putsOf bNil.list = 0 := rfl
  have e3 : dropsOf bNil.list = 0 := rfl
  have e4 : bNil.put.length = 0 := rfl
  have e5 : bNil.drop = 0 := rfl
  unfold nrm
  omega

/-- A part of a normal form. -/
def tight (p : DPart) : Prop := (p.kind = 1 ∧ 0 < p.n ∧ p.signs = []) ∨ (p.kind = 2 ∧ p.n = 0 ∧ p.signs ≠ [] ∧ p.signs.all okSign = true) ∨ (p.kind = 3 ∧ 0 < p.n ∧ p.signs = [])
theorem tight_flush {b : DL02B} (h : ∀ p ∈ b.list, tight p) (hp : b.put.all okSign = true) : ∀ p ∈ flushL b, tight p := by
  intro x hx
  unfold flushL at hx
  simp only [List.mem_append] at hx
  rcases hx with hx | hx | hx
  · exact h x hx
  · split at hx
    · cases hx
    · rename_i hn; simp only [List.mem_singleton] at hx; subst hx; exact .inr (.inl ⟨rfl, rfl, hn, hp⟩)
  · split at hx
    · rename_i hn; simp only [List.mem_singleton] at hx; subst hx; exact .inr (.inr ⟨rfl, hn, rfl⟩)
    · cases hx
theorem tight_fold : ∀ (o : List DPart), (∀ p ∈ o, p.kind = 2 → p.signs.all okSign = true) → ∀ (b : DL02B), (∀ p ∈ b.list, tight p) → b.put.all okSign = true → (∀ p ∈ (o.foldl bPart b).list, tight p) ∧ (o.foldl bPart b).put.all okSign = true
  | [], _, b, h1, h2 => ⟨h1, h2⟩
  | p :: o, h, b, h1, h2 => by
    rw [List.foldl_cons]
    refine tight_fold o (fun q hq => h q (by simp [hq])) _ ?_ ?_
    · unfold bPart
      split
      · exact h1
      · split
        · exact h1
        · unfold bKeep
          split
          · rename_i hn
            have hf := tight_flush h1 h2
            intro x hx
            unfold addKeep at hx
            split at hx
            · rename_i hk
              rcases List.mem_or_eq_of_mem_set hx with hx | hx
              · exact hf x hx
              · have := hf _ (el_mem (l := flushL b) (i := (flushL b).length - 1) (by omega))
                subst hx
                rcases this with h | h | h
                · exact .inl ⟨h.1, by simp only; omega, h.2.2⟩
                · rw [h.1] at hk; simp at hk
                · rw [h.1] at hk; simp at hk
            · rcases List.mem_append.1 hx with hx | hx
              · exact hf x hx
              · simp only [List.mem_singleton] at hx; subst hx; exact .inl ⟨rfl, hn, rfl⟩
          · exact h1
    · unfold bPart
      split
      · rename_i hk; simp only [bPut, List.all_append, h2, h p (by simp) hk]; rfl
      · split
        · exact h2
        · unfold bKeep
          split
          · rfl
          · exact h2
theorem tight_nrm {o : List DPart} (h : ∀ p ∈ o, p.kind = 2 → p.signs.all okSign = true) : ∀ p ∈ nrm o, tight p := by
  obtain ⟨h1, h2⟩ := tight_fold o h bNil (fun p hp => by cases hp) rfl
  exact tight_flush h1 h2
theorem tight_count : ∀ {o : List DPart}, (∀ p ∈ o, tight p) → (o.length : Int) ≤ keepsOf o + putsOf o + dropsOf o ∧ 0 ≤ keepsOf o ∧ 0 ≤ putsOf o ∧ 0 ≤ dropsOf o ∧ ∀ p ∈ o, pKeep p ≤ keepsOf o ∧ pPut p ≤ putsOf o ∧ pDrop p ≤ dropsOf o
  | [], _ => by simp [keepsOf, putsOf, dropsOf, sumI]
  | p :: o, h => by
    have ih := tight_count (o := o) (fun q hq => h q (by simp [hq]))
    have e1 : keepsOf (p :: o) = pKeep p + keepsOf o := rfl
    have e2 : putsOf (p :: o) = pPut p + putsOf o := rfl
    have e3 : dropsOf (p :: o) = pDrop p + dropsOf o := rfl
    rw [e1, e2, e3]
    have hp : 1 ≤ pKeep p + pPut p + pDrop p ∧ 0 ≤ pKeep p ∧ 0 ≤ pPut p ∧ 0 ≤ pDrop p := by
      unfold pKeep pPut pDrop
      rcases h p (by simp) with ⟨h1, h2, h3⟩ | ⟨h1, h2, h3, h4⟩ | ⟨h1, h2, h3⟩
      · simp [h1]; omega
      · simp [h1]; have := List.length_pos_iff.2 h3; omega
      · simp [h1]; omega
    refine ⟨by simp only [List.length_cons]; omega, by omega, by omega, by omega, fun q hq => ?_⟩
    rcases List.mem_cons.1 hq with rfl | hq
    · omega
    · have := ih.2.2.2.2 q hq; omega
theorem okParts_signs {o : List DPart} (h : okParts o = true) : ∀ p ∈ o, p.kind = 2 → p.signs.all okSign = true := fun p hp hk => by
  rcases okPart_cases (okParts_mem h hp) with ⟨h1, _⟩ | ⟨_, _, _, h4⟩ | ⟨h1, _⟩
  · omega
  · exact h4
  · omega
/-- What is tight and has right sums is an operation. -/
theorem okOp_tight {o : List DPart} (h : ∀ p ∈ o, tight p) (h1 : keepsOf o + dropsOf o ≤ 200) (h2 : keepsOf o + putsOf o ≤ 200) : okOp o = true := by
  have hc := tight_count h
  have hp : o.all okPart = true := List.all_eq_true.2 fun p hp => by
    have hb := hc.2.2.2.2 p hp
    unfold pKeep pPut pDrop at hb
    unfold okPart
    rcases h p hp with ⟨h1, h2, h3⟩ | ⟨h1, h2, h3, h4⟩ | ⟨h1, h2, h3⟩
    · simp [h1, h3] at hb ⊢; omega
    · simp [h1] at hb; simp only [h1, h2, h4]; simp; omega
    · simp [h1, h3] at hb ⊢; omega
  unfold okOp okParts
  rw [hp, sum_from, sum_to]
  simp; omega
theorem okOp_sums {o : List DPart} (h : okOp o = true) : keepsOf o + dropsOf o ≤ 200 ∧ keepsOf o + putsOf o ≤ 200 := by
  have h1 := okOp_from h; have h2 := okOp_to h
  rw [sum_from] at h1; rw [sum_to] at h2
  omega
theorem okOp_kinds {o : List DPart} (h : okOp o = true) : kinds o := okParts_kinds (okOp_parts h)
theorem okOp_nrm {o : List DPart} (h : okOp o = true) : okOp (nrm o) = true := by
  have h1 := sums_nrm (okOp_kinds h)
  have h2 := okOp_sums h
  exact okOp_tight (tight_nrm (okParts_signs (okOp_parts h))) (by omega) (by omega)
theorem from_nrm {o : List DPart} (h : kinds o) : fromOf (nrm o) = fromOf o := by have := sums_nrm h; rw [sum_from, sum_from]; omega
theorem to_nrm {o : List DPart} (h : kinds o) : toOf (nrm o) = toOf o := by have := sums_nrm h; rw [sum_to, sum_to]; omega
theorem okOp_all {o : List DPart} (h : okOp o = true) : (o.length : Int) ≤ 600 ∧ 0 ≤ keepsOf o ∧ 0 ≤ putsOf o ∧ 0 ≤ dropsOf o ∧ putsOf o ≤ 200 ∧ keepsOf o ≤ 200 ∧ dropsOf o ≤ 200 := by
  have h1 := okParts_len (okOp_parts h); have h2 := bd_parts (okOp_parts h); have h3 := okOp_sums h
  omega

-- Sizes for the laws
theorem szDPart_sum : ∀ {o : List DPart}, (∀ p ∈ o, p.kind = 2 ∨ p.signs = []) → ((sumL szDPart o : Nat) : Int) = putsOf o
  | [], _ => rfl
  | p :: o, h => by
    have ih := szDPart_sum (o := o) (fun q hq => h q (by simp [hq]))
    have e2 : putsOf (p :: o) = pPut p + putsOf o := rfl
    have e1 : pPut p = (p.signs.length : Int) := by
      unfold pPut
      rcases h p (by simp) with h | h
      · rw [if_pos h]
      · rw [h]; split <;> rfl
    rw [e2, e1, ← ih]
    simp only [sumL, szDPart_eq]; omega
theorem okOp_sz {o : List DPart} (h : okOp o = true) : lenL szDPart o ≤ 800 := by
  have h1 := okOp_all h
  have h2 := szDPart_sum (o := o) (fun p hp => by
    rcases okPart_cases (okParts_mem (okOp_parts h) hp) with h | h | h
    · exact .inr h.2.2.2
    · exact .inl h.1
    · exact .inr h.2.2.2)
  unfold lenL
  omega

-- What a text becomes
theorem appl_len : ∀ {o : List DPart}, kinds o → ∀ {t : List Int}, fromOf o = t.length → ((appl o t).length : Int) = toOf o
  | [], _, t, h => by simp only [fromOf, sumI] at h; simp [appl, toOf, sumI]
  | q :: o, hk, t, h => by
    have ho : kinds o := fun x hx => hk x (by simp [hx])
    obtain ⟨h1, h2, h3⟩ := hk q (by simp)
    have e1 : fromOf (q :: o) = pFrom q + fromOf o := rfl
    have e2 : toOf (q :: o) = pTo q + toOf o := rfl
    have h0 : 0 ≤ fromOf o := by
      have : ∀ x ∈ o, 0 ≤ pFrom x := fun x hx => by
        have := (ho x hx).2.1
        unfold pFrom pKeep pDrop
        split <;> split <;> omega
      exact sumI_nn this
    rw [e1] at h
    rw [e2]
    unfold pFrom pTo pKeep pPut pDrop at *
    unfold appl
    rcases h1 with h1 | h1 | h1
    · simp [h1] at h ⊢
      have := appl_len ho (t := t.drop q.n.toNat) (by simp; omega)
      rw [this]; omega
    · simp [h1] at h ⊢
      have := appl_len ho (t := t) h
      rw [this]
    · simp [h1] at h ⊢
      have := appl_len ho (t := t.drop q.n.toNat) (by simp; omega)
      rw [this]
theorem from_nn {o : List DPart} (ho : kinds o) : 0 ≤ fromOf o := sumI_nn fun x hx => by
  have := (ho x hx).2.1
  unfold pFrom pKeep pDrop
  split <;> split <;> omega
end Go.Proofs.YtjbonmmmcnpjiaaGreatDoor
