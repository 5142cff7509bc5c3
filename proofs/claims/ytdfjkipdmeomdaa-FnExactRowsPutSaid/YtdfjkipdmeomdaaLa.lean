/- Laws of the helpers. No condition. -/
import Derived.Test.YtdfjkipdmeomdaaL7
import Derived.Test.YtdfjkipdmeomdaaAx
namespace Go.Proofs.Ytdfjkipdmeomdaa

theorem to_IntS (a : List Int) (h : (smL smI) a) : x_laws_toIntS a = some a := by
  unfold x_laws_toIntS
  have hl := h.1
  have hx := toLoop a 0 (x_laws_toIntS_f0 a) (fun i l hi hi2 => by
    have hm := h.2 _ (el_mem hi)
    simp (disch := first | assumption | omega | rfl) only [x_laws_toIntS_f0, x_laws_toIntS_b0, cd_t, xg_I, xg_of, Int.toNat_natCast]) (fun l => by simp (disch := first | assumption | omega | rfl) only [x_laws_toIntS_f0, x_laws_toIntS_b0, cd_f, xg_I, Int.toNat_natCast])
  rw [xg_of ⟨by omega, by omega⟩, Int.toNat_natCast, hx]
  rfl

theorem eq_IntS (a b : List Int) (h : (smL smI) a) : x_laws_eqIntS a b = some (decide (a = b)) := by
  unfold x_laws_eqIntS
  have hl := h.1
  by_cases hab : (a.length : Int) = (b.length : Int)
  · rw [cd_n, cd_t hab, eqLoop a b (x_laws_eqIntS_f0 a b) (by omega) (fun i hi hi2 => by
      have hm := h.2 _ (el_mem hi)
      simp (disch := first | assumption | omega | rfl) only [x_laws_eqIntS_f0, x_laws_eqIntS_b0, cd_n, cd_t, xg_I, xg_of, Int.toNat_natCast]) (by simp (disch := first | assumption | omega | rfl) only [x_laws_eqIntS_f0, x_laws_eqIntS_b0, cd_n, cd_f, xg_I, Int.toNat_natCast])]
    by_cases hq : a = b
    · rw [decide_eq_true hq]; rfl
    · rw [decide_eq_false hq]; rfl
  · have hq : a ≠ b := fun e => hab (by rw [e])
    rw [cd_n, cd_f hab, decide_eq_false hq]

theorem eq_Part (a b : DPart) (h : smDPart a) : x_laws_eqPart a b = some (decide (a = b)) := by
  unfold x_laws_eqPart
  obtain ⟨h0, h1, h2⟩ := id h
  have hq : (a = b) ↔ (a.kind = b.kind ∧ a.n = b.n ∧ a.signs = b.signs ∧ True) := by cases a; cases b; simp
  rw [show decide (a = b) = decide (a.kind = b.kind ∧ a.n = b.n ∧ a.signs = b.signs ∧ True) from decide_eq_decide.2 hq]
  try simp (disch := first | assumption | omega | rfl) only [Option.bind_some, eq_IntS]
  exact eqstep (eqstep (eqstep (rfl)))

theorem eq_PartS (a b : List DPart) (h : (smL smDPart) a) : x_laws_eqPartS a b = some (decide (a = b)) := by
  unfold x_laws_eqPartS
  have hl := h.1
  by_cases hab : (a.length : Int) = (b.length : Int)
  · rw [cd_n, cd_t hab, eqLoop a b (x_laws_eqPartS_f0 a b) (by omega) (fun i hi hi2 => by
      have hm := h.2 _ (el_mem hi)
      simp (disch := first | assumption | omega | rfl) only [x_laws_eqPartS_f0, x_laws_eqPartS_b0, cd_n, cd_t, xg_I, xg_of, Int.toNat_natCast, Option.bind_some, eq_Part]) (by simp (disch := first | assumption | omega | rfl) only [x_laws_eqPartS_f0, x_laws_eqPartS_b0, cd_n, cd_f, xg_I, Int.toNat_natCast])]
    by_cases hq : a = b
    · rw [decide_eq_true hq]; rfl
    · rw [decide_eq_false hq]; rfl
  · have hq : a ≠ b := fun e => hab (by rw [e])
    rw [cd_n, cd_f hab, decide_eq_false hq]

theorem mark_IntS (a : List Int) (k : Int) (h : (smL smI) a) (h0 : 0 ≤ k) (hk : k + ((sumL cnI) a : Int) ≤ 2305843009213693952) : x_laws_markIntS a k = some (k + ((sumL cnI) a : Int), (mkL cnI mkI) a k) := by
  unfold x_laws_markIntS
  have hl := h.1
  rw [markLoop smI cnI mkI (x_laws_markIntS_f0) (fun k i l hi hl h0 hp hk => by
    try simp only [cnI] at hk
    simp (disch := first | assumption | omega | rfl) only [x_laws_markIntS_f0, x_laws_markIntS_b0, cd_t, xg_I, xg_of, Int.toNat_natCast]
    try rfl
    ) (fun k l => by simp (disch := first | assumption | omega | rfl) only [x_laws_markIntS_f0, x_laws_markIntS_b0, cd_f, Int.toNat_natCast]) a k (fun x hx => h.2 x hx) (by omega) h0 hk]
  rfl

theorem mark_PartS (a : List DPart) (k : Int) (h : (smL smDPart) a) (h0 : 0 ≤ k) (hk : k + ((sumL cnDPart) a : Int) ≤ 2305843009213693952) : x_laws_markPartS a k = some (k + ((sumL cnDPart) a : Int), (mkL cnDPart mkDPart) a k) := by
  unfold x_laws_markPartS
  have hl := h.1
  rw [markLoop smDPart cnDPart mkDPart (x_laws_markPartS_f0) (fun k i l hi hl h0 hp hk => by
    obtain ⟨hp0, hp1, hp2⟩ := id hp
    unfold cnDPart at hk
    try simp only [cnI] at hk
    simp (disch := first | assumption | omega | rfl) only [x_laws_markPartS_f0, x_laws_markPartS_b0, cd_t, xg_I, xg_of, Int.toNat_natCast, List.length_set, el_set, List.set_set, Option.bind_some, mark_IntS]
    simp only [cnDPart, mkDPart, mkI, cnI, Int.natCast_add, Int.natCast_one, Int.add_assoc]
    try rfl
    ) (fun k l => by simp (disch := first | assumption | omega | rfl) only [x_laws_markPartS_f0, x_laws_markPartS_b0, cd_f, Int.toNat_natCast, List.length_set, List.set_set]) a k (fun x hx => h.2 x hx) (by omega) h0 hk]
  rfl

theorem held_IntS (a : List Int) (k : Int) (h : (smL smI) a) (h0 : 0 ≤ k) (hk : k + ((sumL cnI) a : Int) ≤ 2305843009213693952) : x_laws_heldIntS ((mkL cnI mkI) a k) k = some (k + ((sumL cnI) a : Int)) := by
  unfold x_laws_heldIntS
  have hl := h.1
  rw [heldLoop smI cnI mkI ((mkL cnI mkI) a k) (x_laws_heldIntS_f0 ((mkL cnI mkI) a k)) (fun k i x hi hl h0 hp hk e => by
    try simp only [cnI] at hk
    simp (disch := first | assumption | omega | rfl) only [x_laws_heldIntS_f0, x_laws_heldIntS_b0, e, mkI, cd_n, cd_t, xg_I, xg_of, Int.toNat_natCast]
    try rfl
    ) (fun k => by simp (disch := first | assumption | omega | rfl) only [x_laws_heldIntS_f0, x_laws_heldIntS_b0, cd_n, cd_f, Int.toNat_natCast]) a k rfl (fun x hx => h.2 x hx) (by omega) h0 hk]
  rfl

theorem held_PartS (a : List DPart) (k : Int) (h : (smL smDPart) a) (h0 : 0 ≤ k) (hk : k + ((sumL cnDPart) a : Int) ≤ 2305843009213693952) : x_laws_heldPartS ((mkL cnDPart mkDPart) a k) k = some (k + ((sumL cnDPart) a : Int)) := by
  unfold x_laws_heldPartS
  have hl := h.1
  rw [heldLoop smDPart cnDPart mkDPart ((mkL cnDPart mkDPart) a k) (x_laws_heldPartS_f0 ((mkL cnDPart mkDPart) a k)) (fun k i x hi hl h0 hp hk e => by
    obtain ⟨hp0, hp1, hp2⟩ := id hp
    unfold cnDPart at hk
    try simp only [cnI] at hk
    simp (disch := first | assumption | omega | rfl) only [x_laws_heldPartS_f0, x_laws_heldPartS_b0, e, mkI, mkDPart, cd_n, cd_t, cd_f, xg_I, xg_of, Int.toNat_natCast, Option.bind_some, held_IntS]
    simp only [cnDPart, cnI, Int.natCast_add, Int.add_assoc]
    try rfl
    ) (fun k => by simp (disch := first | assumption | omega | rfl) only [x_laws_heldPartS_f0, x_laws_heldPartS_b0, cd_n, cd_f, Int.toNat_natCast]) a k rfl (fun x hx => h.2 x hx) (by omega) h0 hk]
  rfl

end Go.Proofs.Ytdfjkipdmeomdaa
