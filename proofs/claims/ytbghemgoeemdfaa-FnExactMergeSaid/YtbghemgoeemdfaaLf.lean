/- Laws of the helpers. No condition. -/
import Derived.Test.YtbghemgoeemdfaaL6
import Derived.Test.YtbghemgoeemdfaaAx
namespace Go.Proofs.Ytbghemgoeemdfaa

theorem to_IntS (a : List Int) (h : (smL smI) a) : x_laws_toIntS a = some a := by
  unfold x_laws_toIntS
  have hl := h.1
  have hx := toLoop a 0 (x_laws_toIntS_f0 a) (fun i l hi hi2 => by
    have hm := h.2 _ (el_mem hi)
    simp (disch := first | assumption | omega | rfl) only [x_laws_toIntS_f0, x_laws_toIntS_b0, cd_t, xg_I, xg_of, Int.toNat_natCast]) (fun l => by simp (disch := first | assumption | omega | rfl) only [x_laws_toIntS_f0, x_laws_toIntS_b0, cd_f, xg_I, Int.toNat_natCast])
  rw [xg_of ⟨by omega, by omega⟩, Int.toNat_natCast, hx]
  rfl

theorem eq_IntS (a b : List Int) (h : (smL smI) a) : x_laws_eqIntS a b = some (decide (a = b)) := by
  unfold x_laws_eqIntS
  have hl := h.1
  by_cases hab : (a.length : Int) = (b.length : Int)
  · rw [cd_n, cd_t hab, eqLoop a b (x_laws_eqIntS_f0 a b) (by omega) (fun i hi hi2 => by
      have hm := h.2 _ (el_mem hi)
      simp (disch := first | assumption | omega | rfl) only [x_laws_eqIntS_f0, x_laws_eqIntS_b0, cd_n, cd_t, xg_I, xg_of, Int.toNat_natCast]) (by simp (disch := first | assumption | omega | rfl) only [x_laws_eqIntS_f0, x_laws_eqIntS_b0, cd_n, cd_f, xg_I, Int.toNat_natCast])]
    by_cases hq : a = b
    · rw [decide_eq_true hq]; rfl
    · rw [decide_eq_false hq]; rfl
  · have hq : a ≠ b := fun e => hab (by rw [e])
    rw [cd_n, cd_f hab, decide_eq_false hq]

theorem mark_IntS (a : List Int) (k : Int) (h : (smL smI) a) (h0 : 0 ≤ k) (hk : k + ((sumL cnI) a : Int) ≤ 2305843009213693952) : x_laws_markIntS a k = some (k + ((sumL cnI) a : Int), (mkL cnI mkI) a k) := by
  unfold x_laws_markIntS
  have hl := h.1
  rw [markLoop smI cnI mkI (x_laws_markIntS_f0) (fun k i l hi hl h0 hp hk => by
    try simp only [cnI] at hk
    simp (disch := first | assumption | omega | rfl) only [x_laws_markIntS_f0, x_laws_markIntS_b0, cd_t, xg_I, xg_of, Int.toNat_natCast]
    try rfl
    ) (fun k l => by simp (disch := first | assumption | omega | rfl) only [x_laws_markIntS_f0, x_laws_markIntS_b0, cd_f, Int.toNat_natCast]) a k (fun x hx => h.2 x hx) (by omega) h0 hk]
  rfl

theorem held_IntS (a : List Int) (k : Int) (h : (smL smI) a) (h0 : 0 ≤ k) (hk : k + ((sumL cnI) a : Int) ≤ 2305843009213693952) : x_laws_heldIntS ((mkL cnI mkI) a k) k = some (k + ((sumL cnI) a : Int)) := by
  unfold x_laws_heldIntS
  have hl := h.1
  rw [heldLoop smI cnI mkI ((mkL cnI mkI) a k) (x_laws_heldIntS_f0 ((mkL cnI mkI) a k)) (fun k i x hi hl h0 hp hk e => by
    try simp only [cnI] at hk
    simp (disch := first | assumption | omega | rfl) only [x_laws_heldIntS_f0, x_laws_heldIntS_b0, e, mkI, cd_n, cd_t, xg_I, xg_of, Int.toNat_natCast]
    try rfl
    ) (fun k => by simp (disch := first | assumption | omega | rfl) only [x_laws_heldIntS_f0, x_laws_heldIntS_b0, cd_n, cd_f, Int.toNat_natCast]) a k rfl (fun x hx => h.2 x hx) (by omega) h0 hk]
  rfl

end Go.Proofs.Ytbghemgoeemdfaa
