/- Laws of the helpers. No condition. -/
import Derived.Test.YtdfjkipdmeomdaaTL
import Derived.Test.YtdfjkipdmeomdaaAx
namespace Go.Proofs.Ytdfjkipdmeomdaa

theorem sz_MarkS (a : List DMark) (y : Int) (h : (wfL wfDMark) a) (h0 : 0 ≤ y) (h1 : y ≤ 4611686018427387904) : x_laws_szMarkS a y = some (if ((lenL szDMark) a : Int) ≤ y then y - (lenL szDMark) a else -1) := by
  unfold x_laws_szMarkS
  have hl := h.1
  have hz : (lenL szDMark) a = a.length := lenL_z (fun _ => rfl) _
  rw [hz]
  simp (disch := first | assumption | omega | rfl) only [xg_I]
  by_cases hc : y - (a.length : Int) < 0
  · rw [cd_t hc, if_neg (by omega)]
  · rw [cd_f hc, if_pos (by omega)]

theorem to_Mark (a : DMark) (h : smDMark a) : x_laws_toMark a = some a := by
  unfold x_laws_toMark
  obtain ⟨h0, h1, h2⟩ := id h
  simp (disch := first | assumption | omega | rfl) only

theorem to_MarkS (a : List DMark) (h : (smL smDMark) a) : x_laws_toMarkS a = some a := by
  unfold x_laws_toMarkS
  have hl := h.1
  have hx := toLoop a (default : DMark) (x_laws_toMarkS_f0 a) (fun i l hi hi2 => by
    have hm := h.2 _ (el_mem hi)
    obtain ⟨hm0, hm1, hm2⟩ := id hm
    simp (disch := first | assumption | omega | rfl) only [x_laws_toMarkS_f0, x_laws_toMarkS_b0, cd_t, xg_I, xg_of, Int.toNat_natCast, Option.bind_some, to_Mark]) (fun l => by simp (disch := first | assumption | omega | rfl) only [x_laws_toMarkS_f0, x_laws_toMarkS_b0, cd_f, xg_I, Int.toNat_natCast])
  rw [xg_of ⟨by omega, by omega⟩, Int.toNat_natCast, hx]
  rfl

theorem eq_Mark (a b : DMark) (h : smDMark a) : x_laws_eqMark a b = some (decide (a = b)) := by
  unfold x_laws_eqMark
  obtain ⟨h0, h1, h2⟩ := id h
  have hq : (a = b) ↔ (a.id = b.id ∧ a.from_ = b.from_ ∧ a.to = b.to ∧ True) := by cases a; cases b; simp
  rw [show decide (a = b) = decide (a.id = b.id ∧ a.from_ = b.from_ ∧ a.to = b.to ∧ True) from decide_eq_decide.2 hq]
  try simp (disch := first | assumption | omega | rfl) only [Option.bind_some]
  exact eqstep (eqstep (eqstep (rfl)))

theorem eq_MarkS (a b : List DMark) (h : (smL smDMark) a) : x_laws_eqMarkS a b = some (decide (a = b)) := by
  unfold x_laws_eqMarkS
  have hl := h.1
  by_cases hab : (a.length : Int) = (b.length : Int)
  · rw [cd_n, cd_t hab, eqLoop a b (x_laws_eqMarkS_f0 a b) (by omega) (fun i hi hi2 => by
      have hm := h.2 _ (el_mem hi)
      simp (disch := first | assumption | omega | rfl) only [x_laws_eqMarkS_f0, x_laws_eqMarkS_b0, cd_n, cd_t, xg_I, xg_of, Int.toNat_natCast, Option.bind_some, eq_Mark]) (by simp (disch := first | assumption | omega | rfl) only [x_laws_eqMarkS_f0, x_laws_eqMarkS_b0, cd_n, cd_f, xg_I, Int.toNat_natCast])]
    by_cases hq : a = b
    · rw [decide_eq_true hq]; rfl
    · rw [decide_eq_false hq]; rfl
  · have hq : a ≠ b := fun e => hab (by rw [e])
    rw [cd_n, cd_f hab, decide_eq_false hq]

theorem mark_MarkS (a : List DMark) (k : Int) (h : (smL smDMark) a) (h0 : 0 ≤ k) (hk : k + ((sumL cnDMark) a : Int) ≤ 2305843009213693952) : x_laws_markMarkS a k = some (k + ((sumL cnDMark) a : Int), (mkL cnDMark mkDMark) a k) := by
  unfold x_laws_markMarkS
  have hl := h.1
  rw [markLoop smDMark cnDMark mkDMark (x_laws_markMarkS_f0) (fun k i l hi hl h0 hp hk => by
    obtain ⟨hp0, hp1, hp2⟩ := id hp
    unfold cnDMark at hk
    try simp only [cnI] at hk
    simp (disch := first | assumption | omega | rfl) only [x_laws_markMarkS_f0, x_laws_markMarkS_b0, cd_t, xg_I, xg_of, Int.toNat_natCast, List.length_set, el_set, List.set_set]
    simp only [cnDMark, mkDMark, mkI, cnI, Int.natCast_add, Int.natCast_one, Int.add_assoc]
    try rfl
    ) (fun k l => by simp (disch := first | assumption | omega | rfl) only [x_laws_markMarkS_f0, x_laws_markMarkS_b0, cd_f, Int.toNat_natCast, List.length_set, List.set_set]) a k (fun x hx => h.2 x hx) (by omega) h0 hk]
  rfl

theorem held_MarkS (a : List DMark) (k : Int) (h : (smL smDMark) a) (h0 : 0 ≤ k) (hk : k + ((sumL cnDMark) a : Int) ≤ 2305843009213693952) : x_laws_heldMarkS ((mkL cnDMark mkDMark) a k) k = some (k + ((sumL cnDMark) a : Int)) := by
  unfold x_laws_heldMarkS
  have hl := h.1
  rw [heldLoop smDMark cnDMark mkDMark ((mkL cnDMark mkDMark) a k) (x_laws_heldMarkS_f0 ((mkL cnDMark mkDMark) a k)) (fun k i x hi hl h0 hp hk e => by
    obtain ⟨hp0, hp1, hp2⟩ := id hp
    unfold cnDMark at hk
    try simp only [cnI] at hk
    simp (disch := first | assumption | omega | rfl) only [x_laws_heldMarkS_f0, x_laws_heldMarkS_b0, e, mkI, mkDMark, cd_n, cd_t, xg_I, xg_of, Int.toNat_natCast]
    simp only [cnDMark, cnI, Int.natCast_add, Int.add_assoc]
    try rfl
    ) (fun k => by simp (disch := first | assumption | omega | rfl) only [x_laws_heldMarkS_f0, x_laws_heldMarkS_b0, cd_n, cd_f, Int.toNat_natCast]) a k rfl (fun x hx => h.2 x hx) (by omega) h0 hk]
  rfl

end Go.Proofs.Ytdfjkipdmeomdaa
