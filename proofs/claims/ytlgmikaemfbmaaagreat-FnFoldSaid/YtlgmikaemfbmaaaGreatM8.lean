/- What is put in and taken out by changes led past each other. No condition. -/
import Derived.Test.YtlgmikaemfbmaaaGreatM6
namespace Go.Proofs.YtlgmikaemfbmaaaGreat

theorem okPart_sgn {p : DPart} (h : okPart p = true) (hk : p.kind = 2) : p.signs.all okSign = true := by
  rcases okPart_cases h with ⟨g1, _⟩ | ⟨_, _, _, g4⟩ | ⟨g1, _⟩
  · omega
  · exact g4
  · omega
theorem comp_sums {a b : List DPart} (ha : okOp a = true) (hb : okOp b = true) (hf : toOf a = fromOf b) : fromOf (comp a b) = fromOf a ∧ toOf (comp a b) = toOf b ∧ (∀ t : List Int, fromOf a = t.length → appl (comp a b) t = appl b (appl a t)) ∧ ∀ p ∈ comp a b, tight p := by
  obtain ⟨j, hl⟩ := J3 ha hb hf
  have c := (rawC_ok j hl).1
  have g := comp_mid 100000 j (by omega)
  unfold comp
  rw [from_nrm (oks_kinds c), to_nrm (oks_kinds c), ← mid_from c, ← mid_to c, g.1, g.2, mid_from j.oa, mid_to j.ob]
  exact ⟨rfl, rfl, fun t ht => by rw [appl_nrm (oks_kinds c)]; exact comp_appl 100000 t j (by omega) (by rw [mid_from j.oa, ht]), tight_nrm fun p hp hk => okPart_sgn (c p hp) hk⟩
theorem compose_yes {a b : List DPart} (ha : okOp a = true) (hb : okOp b = true) (hf : toOf a = fromOf b) : compose a b = (comp a b, true) ∧ okOp (comp a b) = true := by
  have g := comp_sums ha hb hf
  have b1 := okOp_from ha
  have b2 := okOp_to hb
  have h1 : okOp (comp a b) = true := okOp_tight g.2.2.2 (by rw [← sum_from, g.1]; omega) (by rw [← sum_to, g.2.1]; omega)
  refine ⟨?_, h1⟩
  unfold compose
  rw [if_pos ⟨ha, hb, hf, h1⟩]
end Go.Proofs.YtlgmikaemfbmaaaGreat
