/- Changes one after the other: composed ones, and ones led past each other, applied to a text. No condition. -/
import Derived.Test.YtlgmikaemfbmaaaGreatMu
namespace Go.Proofs.YtlgmikaemfbmaaaGreat

theorem kind_3 {p : DPart} (h : okPart p = true) : p.kind = 1 ∨ p.kind = 2 ∨ p.kind = 3 := by
  rcases okPart_cases h with ⟨g1, _⟩ | ⟨g1, _⟩ | ⟨g1, _⟩ <;> simp [g1]
theorem led_get {a b : List DPart} (h : (led a b).2.2 = true) : okOp a = true ∧ okOp b = true ∧ fromOf a = fromOf b ∧ okOp (ledX a b) = true ∧ okOp (ledY a b) = true ∧ led a b = (ledX a b, ledY a b, true) := by
  unfold led at h ⊢
  split at h
  · rename_i g; exact ⟨g.1, g.2.1, g.2.2.1, g.2.2.2.1, g.2.2.2.2, if_pos g⟩
  · cases h
theorem oks_kinds {l : List DPart} (h : ∀ p ∈ l, okPart p = true) : kinds l := fun q hq => by
  rcases okPart_cases (h q hq) with ⟨g1, g2, g3, g4⟩ | ⟨g1, g2, g3, g4⟩ | ⟨g1, g2, g3, g4⟩
  · exact ⟨.inl g1, g2, fun h => by omega⟩
  · exact ⟨.inr (.inl g1), by omega, fun _ => g2⟩
  · exact ⟨.inr (.inr g1), g2, fun h => by omega⟩
end Go.Proofs.YtlgmikaemfbmaaaGreat
