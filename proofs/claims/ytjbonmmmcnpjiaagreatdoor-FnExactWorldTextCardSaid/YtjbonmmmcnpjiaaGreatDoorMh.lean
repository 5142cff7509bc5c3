/- Sizes of normal forms; a normal form is an operation. No condition. -/
import Derived.Test.YtjbonmmmcnpjiaaGreatDoorMg
namespace Go.Proofs.YtjbonmmmcnpjiaaGreatDoor

theorem okParts_signs {o : List DPart} (h : okParts o = true) : ∀ p ∈ o, p.kind = 2 → p.signs.all okSign = true := fun p hp hk => by
  rcases okPart_cases (okParts_mem h hp) with ⟨h1, _⟩ | ⟨_, _, _, h4⟩ | ⟨h1, _⟩
  · omega
  · exact h4
  · omega
theorem okOp_kinds {o : List DPart} (h : okOp o = true) : kinds o := okParts_kinds (okOp_parts h)
-- Sizes for the laws
-- What a text becomes
theorem appl_len : ∀ {o : List DPart}, kinds o → ∀ {t : List Int}, fromOf o = t.length → ((appl o t).length : Int) = toOf o
  | [], _, t, h => by simp only [fromOf, sumI] at h; simp [appl, toOf, sumI]
  | q :: o, hk, t, h => by
    have ho : kinds o := fun x hx => hk x (by simp [hx])
    obtain ⟨h1, h2, h3⟩ := hk q (by simp)
    have e1 : fromOf (q :: o) = pFrom q + fromOf o := rfl
    have e2 : toOf (q :: o) = pTo q + toOf o := rfl
    have h0 : 0 ≤ fromOf o := by
      have : ∀ x ∈ o, 0 ≤ pFrom x := fun x hx => by
        have := (ho x hx).2.1
        unfold pFrom pKeep pDrop
        split <;> split <;> omega
      exact sumI_nn this
    rw [e1] at h
    rw [e2]
    unfold pFrom pTo pKeep pPut pDrop at *
    unfold appl
    rcases h1 with h1 | h1 | h1
    · simp [h1] at h ⊢
      have := appl_len ho (t := t.drop q.n.toNat) (by simp; omega)
      rw [this]; omega
    · simp [h1] at h ⊢
      have := appl_len ho (t := t) h
      rw [this]
    · simp [h1] at h ⊢
      have := appl_len ho (t := t.drop q.n.toNat) (by simp; omega)
      rw [this]
end Go.Proofs.YtjbonmmmcnpjiaaGreatDoor
