/- Laws of the helpers. No condition. -/
import Derived.Test.YtmcakofnolmhpaaD4
import Derived.Test.YtmcakofnolmhpaaAx
namespace Go.Proofs.Ytmcakofnolmhpaa

theorem to_ByteS (a : List UInt8) (h : (smL smY) a) : x_laws_toByteS a = some a := by
  unfold x_laws_toByteS
  have hl := h.1
  have hx := toLoop a 0 (x_laws_toByteS_f0 a) (fun i l hi hi2 => by
    have hm := h.2 _ (el_mem hi)
    simp (disch := first | assumption | omega | rfl) only [x_laws_toByteS_f0, x_laws_toByteS_b0, cd_t, xg_I, xg_of, Int.toNat_natCast]) (fun l => by simp (disch := first | assumption | omega | rfl) only [x_laws_toByteS_f0, x_laws_toByteS_b0, cd_f, xg_I, Int.toNat_natCast])
  rw [xg_of ⟨by omega, by omega⟩, Int.toNat_natCast, hx]
  rfl

theorem eq_IntS (a b : List Int) (h : (smL smI) a) : x_laws_eqIntS a b = some (decide (a = b)) := by
  unfold x_laws_eqIntS
  have hl := h.1
  by_cases hab : (a.length : Int) = (b.length : Int)
  · rw [cd_n, cd_t hab, eqLoop a b (x_laws_eqIntS_f0 a b) (by omega) (fun i hi hi2 => by
      have hm := h.2 _ (el_mem hi)
      simp (disch := first | assumption | omega | rfl) only [x_laws_eqIntS_f0, x_laws_eqIntS_b0, cd_n, cd_t, xg_I, xg_of, Int.toNat_natCast]) (by simp (disch := first | assumption | omega | rfl) only [x_laws_eqIntS_f0, x_laws_eqIntS_b0, cd_n, cd_f, xg_I, Int.toNat_natCast])]
    by_cases hq : a = b
    · rw [decide_eq_true hq]; rfl
    · rw [decide_eq_false hq]; rfl
  · have hq : a ≠ b := fun e => hab (by rw [e])
    rw [cd_n, cd_f hab, decide_eq_false hq]

theorem eq_Part (a b : DPart) (h : smDPart a) : x_laws_eqPart a b = some (decide (a = b)) := by
  unfold x_laws_eqPart
  obtain ⟨h0, h1, h2⟩ := id h
  have hq : (a = b) ↔ (a.kind = b.kind ∧ a.n = b.n ∧ a.signs = b.signs ∧ True) := by cases a; cases b; simp
  rw [show decide (a = b) = decide (a.kind = b.kind ∧ a.n = b.n ∧ a.signs = b.signs ∧ True) from decide_eq_decide.2 hq]
  try simp (disch := first | assumption | omega | rfl) only [Option.bind_some, eq_IntS]
  exact eqstep (eqstep (eqstep (rfl)))

theorem eq_PartS (a b : List DPart) (h : (smL smDPart) a) : x_laws_eqPartS a b = some (decide (a = b)) := by
  unfold x_laws_eqPartS
  have hl := h.1
  by_cases hab : (a.length : Int) = (b.length : Int)
  · rw [cd_n, cd_t hab, eqLoop a b (x_laws_eqPartS_f0 a b) (by omega) (fun i hi hi2 => by
      have hm := h.2 _ (el_mem hi)
      simp (disch := first | assumption | omega | rfl) only [x_laws_eqPartS_f0, x_laws_eqPartS_b0, cd_n, cd_t, xg_I, xg_of, Int.toNat_natCast, Option.bind_some, eq_Part]) (by simp (disch := first | assumption | omega | rfl) only [x_laws_eqPartS_f0, x_laws_eqPartS_b0, cd_n, cd_f, xg_I, Int.toNat_natCast])]
    by_cases hq : a = b
    · rw [decide_eq_true hq]; rfl
    · rw [decide_eq_false hq]; rfl
  · have hq : a ≠ b := fun e => hab (by rw [e])
    rw [cd_n, cd_f hab, decide_eq_false hq]

theorem eq_Entry (a b : DEntry) (h : smDEntry a) : x_laws_eqEntry a b = some (decide (a = b)) := by
  unfold x_laws_eqEntry
  obtain ⟨h0, h1, h2⟩ := id h
  have hq : (a = b) ↔ (a.client = b.client ∧ a.seq = b.seq ∧ a.o = b.o ∧ True) := by cases a; cases b; simp
  rw [show decide (a = b) = decide (a.client = b.client ∧ a.seq = b.seq ∧ a.o = b.o ∧ True) from decide_eq_decide.2 hq]
  try simp (disch := first | assumption | omega | rfl) only [Option.bind_some, eq_PartS]
  exact eqstep (eqstep (eqstep (rfl)))

theorem eq_EntryS (a b : List DEntry) (h : (smL smDEntry) a) : x_laws_eqEntryS a b = some (decide (a = b)) := by
  unfold x_laws_eqEntryS
  have hl := h.1
  by_cases hab : (a.length : Int) = (b.length : Int)
  · rw [cd_n, cd_t hab, eqLoop a b (x_laws_eqEntryS_f0 a b) (by omega) (fun i hi hi2 => by
      have hm := h.2 _ (el_mem hi)
      simp (disch := first | assumption | omega | rfl) only [x_laws_eqEntryS_f0, x_laws_eqEntryS_b0, cd_n, cd_t, xg_I, xg_of, Int.toNat_natCast, Option.bind_some, eq_Entry]) (by simp (disch := first | assumption | omega | rfl) only [x_laws_eqEntryS_f0, x_laws_eqEntryS_b0, cd_n, cd_f, xg_I, Int.toNat_natCast])]
    by_cases hq : a = b
    · rw [decide_eq_true hq]; rfl
    · rw [decide_eq_false hq]; rfl
  · have hq : a ≠ b := fun e => hab (by rw [e])
    rw [cd_n, cd_f hab, decide_eq_false hq]

theorem eq_Seen (a b : DSeen) (h : smDSeen a) : x_laws_eqSeen a b = some (decide (a = b)) := by
  unfold x_laws_eqSeen
  obtain ⟨h0, h1, h2⟩ := id h
  have hq : (a = b) ↔ (a.client = b.client ∧ a.seq = b.seq ∧ a.rev = b.rev ∧ True) := by cases a; cases b; simp
  rw [show decide (a = b) = decide (a.client = b.client ∧ a.seq = b.seq ∧ a.rev = b.rev ∧ True) from decide_eq_decide.2 hq]
  try simp (disch := first | assumption | omega | rfl) only [Option.bind_some, eq_IntS, eq_Part, eq_PartS, eq_Entry, eq_EntryS]
  exact eqstep (eqstep (eqstep (rfl)))

theorem eq_SeenS (a b : List DSeen) (h : (smL smDSeen) a) : x_laws_eqSeenS a b = some (decide (a = b)) := by
  unfold x_laws_eqSeenS
  have hl := h.1
  by_cases hab : (a.length : Int) = (b.length : Int)
  · rw [cd_n, cd_t hab, eqLoop a b (x_laws_eqSeenS_f0 a b) (by omega) (fun i hi hi2 => by
      have hm := h.2 _ (el_mem hi)
      simp (disch := first | assumption | omega | rfl) only [x_laws_eqSeenS_f0, x_laws_eqSeenS_b0, cd_n, cd_t, xg_I, xg_of, Int.toNat_natCast, Option.bind_some, eq_Seen]) (by simp (disch := first | assumption | omega | rfl) only [x_laws_eqSeenS_f0, x_laws_eqSeenS_b0, cd_n, cd_f, xg_I, Int.toNat_natCast])]
    by_cases hq : a = b
    · rw [decide_eq_true hq]; rfl
    · rw [decide_eq_false hq]; rfl
  · have hq : a ≠ b := fun e => hab (by rw [e])
    rw [cd_n, cd_f hab, decide_eq_false hq]

theorem eq_Doc (a b : DDoc) (h : smDDoc a) : x_laws_eqDoc a b = some (decide (a = b)) := by
  unfold x_laws_eqDoc
  obtain ⟨h0, h1, h2, h3, h4⟩ := id h
  have hq : (a = b) ↔ (a.name = b.name ∧ a.from_ = b.from_ ∧ a.text = b.text ∧ a.list = b.list ∧ a.seen = b.seen ∧ True) := by cases a; cases b; simp
  rw [show decide (a = b) = decide (a.name = b.name ∧ a.from_ = b.from_ ∧ a.text = b.text ∧ a.list = b.list ∧ a.seen = b.seen ∧ True) from decide_eq_decide.2 hq]
  try simp (disch := first | assumption | omega | rfl) only [Option.bind_some, eq_IntS, eq_EntryS, eq_SeenS]
  exact eqstep (eqstep (eqstep (eqstep (eqstep (rfl)))))

theorem eq_ByteS (a b : List UInt8) (h : (smL smY) a) : x_laws_eqByteS a b = some (decide (a = b)) := by
  unfold x_laws_eqByteS
  have hl := h.1
  by_cases hab : (a.length : Int) = (b.length : Int)
  · rw [cd_n, cd_t hab, eqLoop a b (x_laws_eqByteS_f0 a b) (by omega) (fun i hi hi2 => by
      have hm := h.2 _ (el_mem hi)
      simp (disch := first | assumption | omega | rfl) only [x_laws_eqByteS_f0, x_laws_eqByteS_b0, cd_n, cd_t, xg_I, xg_of, Int.toNat_natCast, y_eq]) (by simp (disch := first | assumption | omega | rfl) only [x_laws_eqByteS_f0, x_laws_eqByteS_b0, cd_n, cd_f, xg_I, Int.toNat_natCast])]
    by_cases hq : a = b
    · rw [decide_eq_true hq]; rfl
    · rw [decide_eq_false hq]; rfl
  · have hq : a ≠ b := fun e => hab (by rw [e])
    rw [cd_n, cd_f hab, decide_eq_false hq]

theorem mark_ByteS (a : List UInt8) (k : Int) (h : (smL smY) a) (h0 : 0 ≤ k) (hk : k + ((sumL cnY) a : Int) ≤ 2305843009213693952) : x_laws_markByteS a k = some (k + ((sumL cnY) a : Int), (mkL cnY mkY) a k) := by
  unfold x_laws_markByteS
  have hl := h.1
  rw [markLoop smY cnY mkY (x_laws_markByteS_f0) (fun k i l hi hl h0 hp hk => by
    try simp only [cnY] at hk
    simp (disch := first | assumption | omega | rfl) only [x_laws_markByteS_f0, x_laws_markByteS_b0, cd_t, xg_I, xg_of, Int.toNat_natCast]
    try rfl
    ) (fun k l => by simp (disch := first | assumption | omega | rfl) only [x_laws_markByteS_f0, x_laws_markByteS_b0, cd_f, Int.toNat_natCast]) a k (fun x hx => h.2 x hx) (by omega) h0 hk]
  rfl

theorem mark_IntS (a : List Int) (k : Int) (h : (smL smI) a) (h0 : 0 ≤ k) (hk : k + ((sumL cnI) a : Int) ≤ 2305843009213693952) : x_laws_markIntS a k = some (k + ((sumL cnI) a : Int), (mkL cnI mkI) a k) := by
  unfold x_laws_markIntS
  have hl := h.1
  rw [markLoop smI cnI mkI (x_laws_markIntS_f0) (fun k i l hi hl h0 hp hk => by
    try simp only [cnI] at hk
    simp (disch := first | assumption | omega | rfl) only [x_laws_markIntS_f0, x_laws_markIntS_b0, cd_t, xg_I, xg_of, Int.toNat_natCast]
    try rfl
    ) (fun k l => by simp (disch := first | assumption | omega | rfl) only [x_laws_markIntS_f0, x_laws_markIntS_b0, cd_f, Int.toNat_natCast]) a k (fun x hx => h.2 x hx) (by omega) h0 hk]
  rfl

theorem mark_PartS (a : List DPart) (k : Int) (h : (smL smDPart) a) (h0 : 0 ≤ k) (hk : k + ((sumL cnDPart) a : Int) ≤ 2305843009213693952) : x_laws_markPartS a k = some (k + ((sumL cnDPart) a : Int), (mkL cnDPart mkDPart) a k) := by
  unfold x_laws_markPartS
  have hl := h.1
  rw [markLoop smDPart cnDPart mkDPart (x_laws_markPartS_f0) (fun k i l hi hl h0 hp hk => by
    obtain ⟨hp0, hp1, hp2⟩ := id hp
    unfold cnDPart at hk
    try simp only [cnI] at hk
    simp (disch := first | assumption | omega | rfl) only [x_laws_markPartS_f0, x_laws_markPartS_b0, cd_t, xg_I, xg_of, Int.toNat_natCast, List.length_set, el_set, List.set_set, Option.bind_some, mark_IntS]
    simp only [cnDPart, mkDPart, mkI, cnI, Int.natCast_add, Int.natCast_one, Int.add_assoc]
    try rfl
    ) (fun k l => by simp (disch := first | assumption | omega | rfl) only [x_laws_markPartS_f0, x_laws_markPartS_b0, cd_f, Int.toNat_natCast, List.length_set, List.set_set]) a k (fun x hx => h.2 x hx) (by omega) h0 hk]
  rfl

theorem mark_EntryS (a : List DEntry) (k : Int) (h : (smL smDEntry) a) (h0 : 0 ≤ k) (hk : k + ((sumL cnDEntry) a : Int) ≤ 2305843009213693952) : x_laws_markEntryS a k = some (k + ((sumL cnDEntry) a : Int), (mkL cnDEntry mkDEntry) a k) := by
  unfold x_laws_markEntryS
  have hl := h.1
  rw [markLoop smDEntry cnDEntry mkDEntry (x_laws_markEntryS_f0) (fun k i l hi hl h0 hp hk => by
    obtain ⟨hp0, hp1, hp2⟩ := id hp
    unfold cnDEntry at hk
    try simp only [cnI] at hk
    simp (disch := first | assumption | omega | rfl) only [x_laws_markEntryS_f0, x_laws_markEntryS_b0, cd_t, xg_I, xg_of, Int.toNat_natCast, List.length_set, el_set, List.set_set, Option.bind_some, mark_PartS]
    simp only [cnDEntry, mkDEntry, mkI, cnI, Int.natCast_add, Int.natCast_one, Int.add_assoc]
    try rfl
    ) (fun k l => by simp (disch := first | assumption | omega | rfl) only [x_laws_markEntryS_f0, x_laws_markEntryS_b0, cd_f, Int.toNat_natCast, List.length_set, List.set_set]) a k (fun x hx => h.2 x hx) (by omega) h0 hk]
  rfl

theorem mark_SeenS (a : List DSeen) (k : Int) (h : (smL smDSeen) a) (h0 : 0 ≤ k) (hk : k + ((sumL cnDSeen) a : Int) ≤ 2305843009213693952) : x_laws_markSeenS a k = some (k + ((sumL cnDSeen) a : Int), (mkL cnDSeen mkDSeen) a k) := by
  unfold x_laws_markSeenS
  have hl := h.1
  rw [markLoop smDSeen cnDSeen mkDSeen (x_laws_markSeenS_f0) (fun k i l hi hl h0 hp hk => by
    obtain ⟨hp0, hp1, hp2⟩ := id hp
    unfold cnDSeen at hk
    try simp only [cnI] at hk
    simp (disch := first | assumption | omega | rfl) only [x_laws_markSeenS_f0, x_laws_markSeenS_b0, cd_t, xg_I, xg_of, Int.toNat_natCast, List.length_set, el_set, List.set_set]
    simp only [cnDSeen, mkDSeen, mkI, cnI, Int.natCast_add, Int.natCast_one, Int.add_assoc]
    try rfl
    ) (fun k l => by simp (disch := first | assumption | omega | rfl) only [x_laws_markSeenS_f0, x_laws_markSeenS_b0, cd_f, Int.toNat_natCast, List.length_set, List.set_set]) a k (fun x hx => h.2 x hx) (by omega) h0 hk]
  rfl

theorem mark_Doc (a : DDoc) (k : Int) (h : smDDoc a) (h0 : 0 ≤ k) (hk : k + (cvDDoc a : Int) ≤ 2305843009213693952) : x_laws_markDoc a k = some (k + (cvDDoc a : Int), mvDDoc a k) := by
  unfold x_laws_markDoc
  obtain ⟨h0, h1, h2, h3, h4⟩ := id h
  unfold cvDDoc at hk
  simp (disch := first | assumption | omega | rfl) only [Option.bind_some, mark_IntS, mark_EntryS, mark_SeenS]
  simp only [cvDDoc, mvDDoc, Int.natCast_add, Int.add_assoc]
  try rfl

theorem held_IntS (a : List Int) (k : Int) (h : (smL smI) a) (h0 : 0 ≤ k) (hk : k + ((sumL cnI) a : Int) ≤ 2305843009213693952) : x_laws_heldIntS ((mkL cnI mkI) a k) k = some (k + ((sumL cnI) a : Int)) := by
  unfold x_laws_heldIntS
  have hl := h.1
  rw [heldLoop smI cnI mkI ((mkL cnI mkI) a k) (x_laws_heldIntS_f0 ((mkL cnI mkI) a k)) (fun k i x hi hl h0 hp hk e => by
    try simp only [cnI] at hk
    simp (disch := first | assumption | omega | rfl) only [x_laws_heldIntS_f0, x_laws_heldIntS_b0, e, mkI, cd_n, cd_t, xg_I, xg_of, Int.toNat_natCast]
    try rfl
    ) (fun k => by simp (disch := first | assumption | omega | rfl) only [x_laws_heldIntS_f0, x_laws_heldIntS_b0, cd_n, cd_f, Int.toNat_natCast]) a k rfl (fun x hx => h.2 x hx) (by omega) h0 hk]
  rfl

theorem held_PartS (a : List DPart) (k : Int) (h : (smL smDPart) a) (h0 : 0 ≤ k) (hk : k + ((sumL cnDPart) a : Int) ≤ 2305843009213693952) : x_laws_heldPartS ((mkL cnDPart mkDPart) a k) k = some (k + ((sumL cnDPart) a : Int)) := by
  unfold x_laws_heldPartS
  have hl := h.1
  rw [heldLoop smDPart cnDPart mkDPart ((mkL cnDPart mkDPart) a k) (x_laws_heldPartS_f0 ((mkL cnDPart mkDPart) a k)) (fun k i x hi hl h0 hp hk e => by
    obtain ⟨hp0, hp1, hp2⟩ := id hp
    unfold cnDPart at hk
    try simp only [cnI] at hk
    simp (disch := first | assumption | omega | rfl) only [x_laws_heldPartS_f0, x_laws_heldPartS_b0, e, mkI, mkDPart, cd_n, cd_t, cd_f, xg_I, xg_of, Int.toNat_natCast, Option.bind_some, held_IntS]
    simp only [cnDPart, cnI, Int.natCast_add, Int.add_assoc]
    try rfl
    ) (fun k => by simp (disch := first | assumption | omega | rfl) only [x_laws_heldPartS_f0, x_laws_heldPartS_b0, cd_n, cd_f, Int.toNat_natCast]) a k rfl (fun x hx => h.2 x hx) (by omega) h0 hk]
  rfl

theorem held_EntryS (a : List DEntry) (k : Int) (h : (smL smDEntry) a) (h0 : 0 ≤ k) (hk : k + ((sumL cnDEntry) a : Int) ≤ 2305843009213693952) : x_laws_heldEntryS ((mkL cnDEntry mkDEntry) a k) k = some (k + ((sumL cnDEntry) a : Int)) := by
  unfold x_laws_heldEntryS
  have hl := h.1
  rw [heldLoop smDEntry cnDEntry mkDEntry ((mkL cnDEntry mkDEntry) a k) (x_laws_heldEntryS_f0 ((mkL cnDEntry mkDEntry) a k)) (fun k i x hi hl h0 hp hk e => by
    obtain ⟨hp0, hp1, hp2⟩ := id hp
    unfold cnDEntry at hk
    try simp only [cnI] at hk
    simp (disch := first | assumption | omega | rfl) only [x_laws_heldEntryS_f0, x_laws_heldEntryS_b0, e, mkI, mkDEntry, cd_n, cd_t, cd_f, xg_I, xg_of, Int.toNat_natCast, Option.bind_some, held_PartS]
    simp only [cnDEntry, cnI, Int.natCast_add, Int.add_assoc]
    try rfl
    ) (fun k => by simp (disch := first | assumption | omega | rfl) only [x_laws_heldEntryS_f0, x_laws_heldEntryS_b0, cd_n, cd_f, Int.toNat_natCast]) a k rfl (fun x hx => h.2 x hx) (by omega) h0 hk]
  rfl

theorem held_SeenS (a : List DSeen) (k : Int) (h : (smL smDSeen) a) (h0 : 0 ≤ k) (hk : k + ((sumL cnDSeen) a : Int) ≤ 2305843009213693952) : x_laws_heldSeenS ((mkL cnDSeen mkDSeen) a k) k = some (k + ((sumL cnDSeen) a : Int)) := by
  unfold x_laws_heldSeenS
  have hl := h.1
  rw [heldLoop smDSeen cnDSeen mkDSeen ((mkL cnDSeen mkDSeen) a k) (x_laws_heldSeenS_f0 ((mkL cnDSeen mkDSeen) a k)) (fun k i x hi hl h0 hp hk e => by
    obtain ⟨hp0, hp1, hp2⟩ := id hp
    unfold cnDSeen at hk
    try simp only [cnI] at hk
    simp (disch := first | assumption | omega | rfl) only [x_laws_heldSeenS_f0, x_laws_heldSeenS_b0, e, mkI, mkDSeen, cd_n, cd_t, xg_I, xg_of, Int.toNat_natCast]
    simp only [cnDSeen, cnI, Int.natCast_add, Int.add_assoc]
    try rfl
    ) (fun k => by simp (disch := first | assumption | omega | rfl) only [x_laws_heldSeenS_f0, x_laws_heldSeenS_b0, cd_n, cd_f, Int.toNat_natCast]) a k rfl (fun x hx => h.2 x hx) (by omega) h0 hk]
  rfl

theorem held_Doc (a : DDoc) (k : Int) (h : smDDoc a) (h0 : 0 ≤ k) (hk : k + (cvDDoc a : Int) ≤ 2305843009213693952) : x_laws_heldDoc (mvDDoc a k) k = some (k + (cvDDoc a : Int)) := by
  unfold x_laws_heldDoc
  obtain ⟨h0, h1, h2, h3, h4⟩ := id h
  unfold cvDDoc at hk
  simp (disch := first | assumption | omega | rfl) only [mvDDoc, cd_f, Option.bind_some, held_IntS, held_EntryS, held_SeenS]
  simp only [cvDDoc, Int.natCast_add, Int.add_assoc]
  try rfl

end Go.Proofs.Ytmcakofnolmhpaa
