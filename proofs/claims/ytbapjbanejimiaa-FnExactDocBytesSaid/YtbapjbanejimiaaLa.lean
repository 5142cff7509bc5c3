/- Laws of the helpers. No condition. -/
import Derived.Test.YtbapjbanejimiaaDX
import Derived.Test.YtbapjbanejimiaaAx
namespace Go.Proofs.Ytbapjbanejimiaa

theorem sz_IntS (a : List Int) (y : Int) (h : (wfL wfI) a) (h0 : 0 ≤ y) (h1 : y ≤ 4611686018427387904) : x_laws_szIntS a y = some (if ((lenL szI) a : Int) ≤ y then y - (lenL szI) a else -1) := by
  unfold x_laws_szIntS
  have hl := h.1
  have hz : (lenL szI) a = a.length := lenL_z (fun _ => rfl) _
  rw [hz]
  simp (disch := first | assumption | omega | rfl) only [xg_I]
  by_cases hc : y - (a.length : Int) < 0
  · rw [cd_t hc, if_neg (by omega)]
  · rw [cd_f hc, if_pos (by omega)]

theorem sz_Part (a : DPart) (y : Int) (h : wfDPart a) (h0 : 0 ≤ y) (h1 : y ≤ 4611686018427387904) : x_laws_szPart a y = some (if (szDPart a : Int) ≤ y then y - szDPart a else -1) := by
  unfold x_laws_szPart
  obtain ⟨h0, h1, h2⟩ := id h
  unfold szDPart
  by_cases hz0 : ((lenL szI) a.signs : Int) ≤ y
  case neg =>
    rw [if_neg (by omega)]
    simp (disch := first | assumption | omega | rfl) only [cd_t, Option.bind_some, sz_IntS, if_neg]
  rw [if_pos (by omega)]
  simp (disch := first | assumption | omega | rfl) only [cd_f, Option.bind_some, sz_IntS, if_pos]
  try rfl

theorem sz_PartS (a : List DPart) (y : Int) (h : (wfL wfDPart) a) (h0 : 0 ≤ y) (h1 : y ≤ 4611686018427387904) : x_laws_szPartS a y = some (if ((lenL szDPart) a : Int) ≤ y then y - (lenL szDPart) a else -1) := by
  unfold x_laws_szPartS
  have hl := h.1
  simp (disch := first | assumption | omega | rfl) only [xg_I]
  by_cases hc : y - (a.length : Int) < 0
  · rw [cd_t hc, lenL_eq, if_neg (by omega)]
  · rw [cd_f hc, szLoop szDPart a (x_laws_szPartS_f0 a) (fun i y hi hy hy2 => by
      have hm := h.2 _ (el_mem hi)
      simp (disch := first | assumption | omega | rfl) only [x_laws_szPartS_f0, x_laws_szPartS_b0, cd_t, xg_I, xg_of, Int.toNat_natCast, Option.bind_some, sz_Part]
      by_cases hz : (szDPart (el a i) : Int) ≤ y
      · rw [if_pos hz, if_pos hz, cd_f (by omega)]
      · rw [if_neg hz, if_neg hz, cd_t (by omega)]
      ) (fun y => by simp (disch := first | assumption | omega | rfl) only [x_laws_szPartS_f0, x_laws_szPartS_b0, cd_f, xg_I, Int.toNat_natCast]) _ (by omega) (by omega)]
    rw [lenL_eq]
    by_cases hz : (sumL szDPart a : Int) ≤ y - a.length
    · rw [if_pos hz, if_pos (by omega)]; simp only [Option.bind_some, Sum.elim_inl, Option.some.injEq]; omega
    · rw [if_neg hz, if_neg (by omega)]; rfl

theorem sz_Entry (a : DEntry) (y : Int) (h : wfDEntry a) (h0 : 0 ≤ y) (h1 : y ≤ 4611686018427387904) : x_laws_szEntry a y = some (if (szDEntry a : Int) ≤ y then y - szDEntry a else -1) := by
  unfold x_laws_szEntry
  obtain ⟨h0, h1, h2⟩ := id h
  unfold szDEntry
  by_cases hz0 : ((lenL szDPart) a.o : Int) ≤ y
  case neg =>
    rw [if_neg (by omega)]
    simp (disch := first | assumption | omega | rfl) only [cd_t, Option.bind_some, sz_PartS, if_neg]
  rw [if_pos (by omega)]
  simp (disch := first | assumption | omega | rfl) only [cd_f, Option.bind_some, sz_PartS, if_pos]
  try rfl

theorem sz_EntryS (a : List DEntry) (y : Int) (h : (wfL wfDEntry) a) (h0 : 0 ≤ y) (h1 : y ≤ 4611686018427387904) : x_laws_szEntryS a y = some (if ((lenL szDEntry) a : Int) ≤ y then y - (lenL szDEntry) a else -1) := by
  unfold x_laws_szEntryS
  have hl := h.1
  simp (disch := first | assumption | omega | rfl) only [xg_I]
  by_cases hc : y - (a.length : Int) < 0
  · rw [cd_t hc, lenL_eq, if_neg (by omega)]
  · rw [cd_f hc, szLoop szDEntry a (x_laws_szEntryS_f0 a) (fun i y hi hy hy2 => by
      have hm := h.2 _ (el_mem hi)
      simp (disch := first | assumption | omega | rfl) only [x_laws_szEntryS_f0, x_laws_szEntryS_b0, cd_t, xg_I, xg_of, Int.toNat_natCast, Option.bind_some, sz_Entry]
      by_cases hz : (szDEntry (el a i) : Int) ≤ y
      · rw [if_pos hz, if_pos hz, cd_f (by omega)]
      · rw [if_neg hz, if_neg hz, cd_t (by omega)]
      ) (fun y => by simp (disch := first | assumption | omega | rfl) only [x_laws_szEntryS_f0, x_laws_szEntryS_b0, cd_f, xg_I, Int.toNat_natCast]) _ (by omega) (by omega)]
    rw [lenL_eq]
    by_cases hz : (sumL szDEntry a : Int) ≤ y - a.length
    · rw [if_pos hz, if_pos (by omega)]; simp only [Option.bind_some, Sum.elim_inl, Option.some.injEq]; omega
    · rw [if_neg hz, if_neg (by omega)]; rfl

theorem sz_SeenS (a : List DSeen) (y : Int) (h : (wfL wfDSeen) a) (h0 : 0 ≤ y) (h1 : y ≤ 4611686018427387904) : x_laws_szSeenS a y = some (if ((lenL szDSeen) a : Int) ≤ y then y - (lenL szDSeen) a else -1) := by
  unfold x_laws_szSeenS
  have hl := h.1
  have hz : (lenL szDSeen) a = a.length := lenL_z (fun _ => rfl) _
  rw [hz]
  simp (disch := first | assumption | omega | rfl) only [xg_I]
  by_cases hc : y - (a.length : Int) < 0
  · rw [cd_t hc, if_neg (by omega)]
  · rw [cd_f hc, if_pos (by omega)]

theorem sz_Doc (a : DDoc) (y : Int) (h : wfDDoc a) (h0 : 0 ≤ y) (h1 : y ≤ 4611686018427387904) : x_laws_szDoc a y = some (if (szDDoc a : Int) ≤ y then y - szDDoc a else -1) := by
  unfold x_laws_szDoc
  obtain ⟨h0, h1, h2, h3, h4⟩ := id h
  unfold wfT at h0
  have hZ : szDDoc a = a.name.size + (lenL szI) a.text + (lenL szDEntry) a.list + (lenL szDSeen) a.seen := rfl
  by_cases hz0 : (a.name.size : Int) ≤ y
  case neg =>
    rw [if_neg (by omega)]
    simp (disch := first | assumption | omega | rfl) only [cd_t, xg_I]
  by_cases hz1 : ((lenL szI) a.text : Int) ≤ y - (a.name.size : Int)
  case neg =>
    rw [if_neg (by omega)]
    simp (disch := first | assumption | omega | rfl) only [cd_t, cd_f, xg_I, Option.bind_some, sz_IntS, if_neg]
  by_cases hz2 : ((lenL szDEntry) a.list : Int) ≤ y - (a.name.size : Int) - ((lenL szI) a.text : Int)
  case neg =>
    rw [if_neg (by omega)]
    simp (disch := first | assumption | omega | rfl) only [cd_t, cd_f, xg_I, Option.bind_some, sz_IntS, sz_EntryS, if_pos, if_neg]
  by_cases hz3 : ((lenL szDSeen) a.seen : Int) ≤ y - (a.name.size : Int) - ((lenL szI) a.text : Int) - ((lenL szDEntry) a.list : Int)
  case neg =>
    rw [if_neg (by omega)]
    simp (disch := first | assumption | omega | rfl) only [cd_t, cd_f, xg_I, Option.bind_some, sz_IntS, sz_EntryS, sz_SeenS, if_pos, if_neg]
  rw [if_pos (by omega)]
  simp (disch := first | assumption | omega | rfl) only [cd_f, xg_I, Option.bind_some, sz_IntS, sz_EntryS, sz_SeenS, if_pos]
  simp only [Option.some.injEq]; omega

theorem to_IntS (a : List Int) (h : (smL smI) a) : x_laws_toIntS a = some a := by
  unfold x_laws_toIntS
  have hl := h.1
  have hx := toLoop a 0 (x_laws_toIntS_f0 a) (fun i l hi hi2 => by
    have hm := h.2 _ (el_mem hi)
    simp (disch := first | assumption | omega | rfl) only [x_laws_toIntS_f0, x_laws_toIntS_b0, cd_t, xg_I, xg_of, Int.toNat_natCast]) (fun l => by simp (disch := first | assumption | omega | rfl) only [x_laws_toIntS_f0, x_laws_toIntS_b0, cd_f, xg_I, Int.toNat_natCast])
  rw [xg_of ⟨by omega, by omega⟩, Int.toNat_natCast, hx]
  rfl

theorem to_Part (a : DPart) (h : smDPart a) : x_laws_toPart a = some a := by
  unfold x_laws_toPart
  obtain ⟨h0, h1, h2⟩ := id h
  simp (disch := first | assumption | omega | rfl) only [Option.bind_some, to_IntS]

theorem to_PartS (a : List DPart) (h : (smL smDPart) a) : x_laws_toPartS a = some a := by
  unfold x_laws_toPartS
  have hl := h.1
  have hx := toLoop a (default : DPart) (x_laws_toPartS_f0 a) (fun i l hi hi2 => by
    have hm := h.2 _ (el_mem hi)
    obtain ⟨hm0, hm1, hm2⟩ := id hm
    simp (disch := first | assumption | omega | rfl) only [x_laws_toPartS_f0, x_laws_toPartS_b0, cd_t, xg_I, xg_of, Int.toNat_natCast, Option.bind_some, to_Part]) (fun l => by simp (disch := first | assumption | omega | rfl) only [x_laws_toPartS_f0, x_laws_toPartS_b0, cd_f, xg_I, Int.toNat_natCast])
  rw [xg_of ⟨by omega, by omega⟩, Int.toNat_natCast, hx]
  rfl

theorem to_Entry (a : DEntry) (h : smDEntry a) : x_laws_toEntry a = some a := by
  unfold x_laws_toEntry
  obtain ⟨h0, h1, h2⟩ := id h
  simp (disch := first | assumption | omega | rfl) only [Option.bind_some, to_PartS]

theorem to_EntryS (a : List DEntry) (h : (smL smDEntry) a) : x_laws_toEntryS a = some a := by
  unfold x_laws_toEntryS
  have hl := h.1
  have hx := toLoop a (default : DEntry) (x_laws_toEntryS_f0 a) (fun i l hi hi2 => by
    have hm := h.2 _ (el_mem hi)
    obtain ⟨hm0, hm1, hm2⟩ := id hm
    simp (disch := first | assumption | omega | rfl) only [x_laws_toEntryS_f0, x_laws_toEntryS_b0, cd_t, xg_I, xg_of, Int.toNat_natCast, Option.bind_some, to_Entry]) (fun l => by simp (disch := first | assumption | omega | rfl) only [x_laws_toEntryS_f0, x_laws_toEntryS_b0, cd_f, xg_I, Int.toNat_natCast])
  rw [xg_of ⟨by omega, by omega⟩, Int.toNat_natCast, hx]
  rfl

theorem to_Seen (a : DSeen) (h : smDSeen a) : x_laws_toSeen a = some a := by
  unfold x_laws_toSeen
  obtain ⟨h0, h1, h2⟩ := id h
  simp (disch := first | assumption | omega | rfl) only

theorem to_SeenS (a : List DSeen) (h : (smL smDSeen) a) : x_laws_toSeenS a = some a := by
  unfold x_laws_toSeenS
  have hl := h.1
  have hx := toLoop a (default : DSeen) (x_laws_toSeenS_f0 a) (fun i l hi hi2 => by
    have hm := h.2 _ (el_mem hi)
    obtain ⟨hm0, hm1, hm2⟩ := id hm
    simp (disch := first | assumption | omega | rfl) only [x_laws_toSeenS_f0, x_laws_toSeenS_b0, cd_t, xg_I, xg_of, Int.toNat_natCast, Option.bind_some, to_Seen]) (fun l => by simp (disch := first | assumption | omega | rfl) only [x_laws_toSeenS_f0, x_laws_toSeenS_b0, cd_f, xg_I, Int.toNat_natCast])
  rw [xg_of ⟨by omega, by omega⟩, Int.toNat_natCast, hx]
  rfl

theorem to_Doc (a : DDoc) (h : smDDoc a) : x_laws_toDoc a = some a := by
  unfold x_laws_toDoc
  obtain ⟨h0, h1, h2, h3, h4⟩ := id h
  simp (disch := first | assumption | omega | rfl) only [Option.bind_some, to_IntS, to_EntryS, to_SeenS]

theorem eq_ByteS (a b : List UInt8) (h : (smL smY) a) : x_laws_eqByteS a b = some (decide (a = b)) := by
  unfold x_laws_eqByteS
  have hl := h.1
  by_cases hab : (a.length : Int) = (b.length : Int)
  · rw [cd_n, cd_t hab, eqLoop a b (x_laws_eqByteS_f0 a b) (by omega) (fun i hi hi2 => by
      have hm := h.2 _ (el_mem hi)
      simp (disch := first | assumption | omega | rfl) only [x_laws_eqByteS_f0, x_laws_eqByteS_b0, cd_n, cd_t, xg_I, xg_of, Int.toNat_natCast, y_eq]) (by simp (disch := first | assumption | omega | rfl) only [x_laws_eqByteS_f0, x_laws_eqByteS_b0, cd_n, cd_f, xg_I, Int.toNat_natCast])]
    by_cases hq : a = b
    · rw [decide_eq_true hq]; rfl
    · rw [decide_eq_false hq]; rfl
  · have hq : a ≠ b := fun e => hab (by rw [e])
    rw [cd_n, cd_f hab, decide_eq_false hq]

theorem eq_IntS (a b : List Int) (h : (smL smI) a) : x_laws_eqIntS a b = some (decide (a = b)) := by
  unfold x_laws_eqIntS
  have hl := h.1
  by_cases hab : (a.length : Int) = (b.length : Int)
  · rw [cd_n, cd_t hab, eqLoop a b (x_laws_eqIntS_f0 a b) (by omega) (fun i hi hi2 => by
      have hm := h.2 _ (el_mem hi)
      simp (disch := first | assumption | omega | rfl) only [x_laws_eqIntS_f0, x_laws_eqIntS_b0, cd_n, cd_t, xg_I, xg_of, Int.toNat_natCast]) (by simp (disch := first | assumption | omega | rfl) only [x_laws_eqIntS_f0, x_laws_eqIntS_b0, cd_n, cd_f, xg_I, Int.toNat_natCast])]
    by_cases hq : a = b
    · rw [decide_eq_true hq]; rfl
    · rw [decide_eq_false hq]; rfl
  · have hq : a ≠ b := fun e => hab (by rw [e])
    rw [cd_n, cd_f hab, decide_eq_false hq]

theorem eq_Part (a b : DPart) (h : smDPart a) : x_laws_eqPart a b = some (decide (a = b)) := by
  unfold x_laws_eqPart
  obtain ⟨h0, h1, h2⟩ := id h
  have hq : (a = b) ↔ (a.kind = b.kind ∧ a.n = b.n ∧ a.signs = b.signs ∧ True) := by cases a; cases b; simp
  rw [show decide (a = b) = decide (a.kind = b.kind ∧ a.n = b.n ∧ a.signs = b.signs ∧ True) from decide_eq_decide.2 hq]
  try simp (disch := first | assumption | omega | rfl) only [Option.bind_some, eq_IntS]
  exact eqstep (eqstep (eqstep (rfl)))

theorem eq_PartS (a b : List DPart) (h : (smL smDPart) a) : x_laws_eqPartS a b = some (decide (a = b)) := by
  unfold x_laws_eqPartS
  have hl := h.1
  by_cases hab : (a.length : Int) = (b.length : Int)
  · rw [cd_n, cd_t hab, eqLoop a b (x_laws_eqPartS_f0 a b) (by omega) (fun i hi hi2 => by
      have hm := h.2 _ (el_mem hi)
      simp (disch := first | assumption | omega | rfl) only [x_laws_eqPartS_f0, x_laws_eqPartS_b0, cd_n, cd_t, xg_I, xg_of, Int.toNat_natCast, Option.bind_some, eq_Part]) (by simp (disch := first | assumption | omega | rfl) only [x_laws_eqPartS_f0, x_laws_eqPartS_b0, cd_n, cd_f, xg_I, Int.toNat_natCast])]
    by_cases hq : a = b
    · rw [decide_eq_true hq]; rfl
    · rw [decide_eq_false hq]; rfl
  · have hq : a ≠ b := fun e => hab (by rw [e])
    rw [cd_n, cd_f hab, decide_eq_false hq]

theorem eq_Entry (a b : DEntry) (h : smDEntry a) : x_laws_eqEntry a b = some (decide (a = b)) := by
  unfold x_laws_eqEntry
  obtain ⟨h0, h1, h2⟩ := id h
  have hq : (a = b) ↔ (a.client = b.client ∧ a.seq = b.seq ∧ a.o = b.o ∧ True) := by cases a; cases b; simp
  rw [show decide (a = b) = decide (a.client = b.client ∧ a.seq = b.seq ∧ a.o = b.o ∧ True) from decide_eq_decide.2 hq]
  try simp (disch := first | assumption | omega | rfl) only [Option.bind_some, eq_PartS]
  exact eqstep (eqstep (eqstep (rfl)))

theorem eq_EntryS (a b : List DEntry) (h : (smL smDEntry) a) : x_laws_eqEntryS a b = some (decide (a = b)) := by
  unfold x_laws_eqEntryS
  have hl := h.1
  by_cases hab : (a.length : Int) = (b.length : Int)
  · rw [cd_n, cd_t hab, eqLoop a b (x_laws_eqEntryS_f0 a b) (by omega) (fun i hi hi2 => by
      have hm := h.2 _ (el_mem hi)
      simp (disch := first | assumption | omega | rfl) only [x_laws_eqEntryS_f0, x_laws_eqEntryS_b0, cd_n, cd_t, xg_I, xg_of, Int.toNat_natCast, Option.bind_some, eq_Entry]) (by simp (disch := first | assumption | omega | rfl) only [x_laws_eqEntryS_f0, x_laws_eqEntryS_b0, cd_n, cd_f, xg_I, Int.toNat_natCast])]
    by_cases hq : a = b
    · rw [decide_eq_true hq]; rfl
    · rw [decide_eq_false hq]; rfl
  · have hq : a ≠ b := fun e => hab (by rw [e])
    rw [cd_n, cd_f hab, decide_eq_false hq]

theorem eq_Seen (a b : DSeen) (h : smDSeen a) : x_laws_eqSeen a b = some (decide (a = b)) := by
  unfold x_laws_eqSeen
  obtain ⟨h0, h1, h2⟩ := id h
  have hq : (a = b) ↔ (a.client = b.client ∧ a.seq = b.seq ∧ a.rev = b.rev ∧ True) := by cases a; cases b; simp
  rw [show decide (a = b) = decide (a.client = b.client ∧ a.seq = b.seq ∧ a.rev = b.rev ∧ True) from decide_eq_decide.2 hq]
  try simp (disch := first | assumption | omega | rfl) only [Option.bind_some, eq_ByteS, eq_IntS, eq_Part, eq_PartS, eq_Entry, eq_EntryS]
  exact eqstep (eqstep (eqstep (rfl)))

theorem eq_SeenS (a b : List DSeen) (h : (smL smDSeen) a) : x_laws_eqSeenS a b = some (decide (a = b)) := by
  unfold x_laws_eqSeenS
  have hl := h.1
  by_cases hab : (a.length : Int) = (b.length : Int)
  · rw [cd_n, cd_t hab, eqLoop a b (x_laws_eqSeenS_f0 a b) (by omega) (fun i hi hi2 => by
      have hm := h.2 _ (el_mem hi)
      simp (disch := first | assumption | omega | rfl) only [x_laws_eqSeenS_f0, x_laws_eqSeenS_b0, cd_n, cd_t, xg_I, xg_of, Int.toNat_natCast, Option.bind_some, eq_Seen]) (by simp (disch := first | assumption | omega | rfl) only [x_laws_eqSeenS_f0, x_laws_eqSeenS_b0, cd_n, cd_f, xg_I, Int.toNat_natCast])]
    by_cases hq : a = b
    · rw [decide_eq_true hq]; rfl
    · rw [decide_eq_false hq]; rfl
  · have hq : a ≠ b := fun e => hab (by rw [e])
    rw [cd_n, cd_f hab, decide_eq_false hq]

theorem eq_Doc (a b : DDoc) (h : smDDoc a) : x_laws_eqDoc a b = some (decide (a = b)) := by
  unfold x_laws_eqDoc
  obtain ⟨h0, h1, h2, h3, h4⟩ := id h
  have hq : (a = b) ↔ (a.name = b.name ∧ a.from_ = b.from_ ∧ a.text = b.text ∧ a.list = b.list ∧ a.seen = b.seen ∧ True) := by cases a; cases b; simp
  rw [show decide (a = b) = decide (a.name = b.name ∧ a.from_ = b.from_ ∧ a.text = b.text ∧ a.list = b.list ∧ a.seen = b.seen ∧ True) from decide_eq_decide.2 hq]
  try simp (disch := first | assumption | omega | rfl) only [Option.bind_some, eq_IntS, eq_EntryS, eq_SeenS]
  exact eqstep (eqstep (eqstep (eqstep (eqstep (rfl)))))

theorem mark_IntS (a : List Int) (k : Int) (h : (smL smI) a) (h0 : 0 ≤ k) (hk : k + ((sumL cnI) a : Int) ≤ 2305843009213693952) : x_laws_markIntS a k = some (k + ((sumL cnI) a : Int), (mkL cnI mkI) a k) := by
  unfold x_laws_markIntS
  have hl := h.1
  rw [markLoop smI cnI mkI (x_laws_markIntS_f0) (fun k i l hi hl h0 hp hk => by
    try simp only [cnI] at hk
    simp (disch := first | assumption | omega | rfl) only [x_laws_markIntS_f0, x_laws_markIntS_b0, cd_t, xg_I, xg_of, Int.toNat_natCast]
    try rfl
    ) (fun k l => by simp (disch := first | assumption | omega | rfl) only [x_laws_markIntS_f0, x_laws_markIntS_b0, cd_f, Int.toNat_natCast]) a k (fun x hx => h.2 x hx) (by omega) h0 hk]
  rfl

theorem mark_PartS (a : List DPart) (k : Int) (h : (smL smDPart) a) (h0 : 0 ≤ k) (hk : k + ((sumL cnDPart) a : Int) ≤ 2305843009213693952) : x_laws_markPartS a k = some (k + ((sumL cnDPart) a : Int), (mkL cnDPart mkDPart) a k) := by
  unfold x_laws_markPartS
  have hl := h.1
  rw [markLoop smDPart cnDPart mkDPart (x_laws_markPartS_f0) (fun k i l hi hl h0 hp hk => by
    obtain ⟨hp0, hp1, hp2⟩ := id hp
    unfold cnDPart at hk
    try simp only [cnI] at hk
    simp (disch := first | assumption | omega | rfl) only [x_laws_markPartS_f0, x_laws_markPartS_b0, cd_t, xg_I, xg_of, Int.toNat_natCast, List.length_set, el_set, List.set_set, Option.bind_some, mark_IntS]
    simp only [cnDPart, mkDPart, mkI, cnI, Int.natCast_add, Int.natCast_one, Int.add_assoc]
    try rfl
    ) (fun k l => by simp (disch := first | assumption | omega | rfl) only [x_laws_markPartS_f0, x_laws_markPartS_b0, cd_f, Int.toNat_natCast, List.length_set, List.set_set]) a k (fun x hx => h.2 x hx) (by omega) h0 hk]
  rfl

theorem mark_EntryS (a : List DEntry) (k : Int) (h : (smL smDEntry) a) (h0 : 0 ≤ k) (hk : k + ((sumL cnDEntry) a : Int) ≤ 2305843009213693952) : x_laws_markEntryS a k = some (k + ((sumL cnDEntry) a : Int), (mkL cnDEntry mkDEntry) a k) := by
  unfold x_laws_markEntryS
  have hl := h.1
  rw [markLoop smDEntry cnDEntry mkDEntry (x_laws_markEntryS_f0) (fun k i l hi hl h0 hp hk => by
    obtain ⟨hp0, hp1, hp2⟩ := id hp
    unfold cnDEntry at hk
    try simp only [cnI] at hk
    simp (disch := first | assumption | omega | rfl) only [x_laws_markEntryS_f0, x_laws_markEntryS_b0, cd_t, xg_I, xg_of, Int.toNat_natCast, List.length_set, el_set, List.set_set, Option.bind_some, mark_PartS]
    simp only [cnDEntry, mkDEntry, mkI, cnI, Int.natCast_add, Int.natCast_one, Int.add_assoc]
    try rfl
    ) (fun k l => by simp (disch := first | assumption | omega | rfl) only [x_laws_markEntryS_f0, x_laws_markEntryS_b0, cd_f, Int.toNat_natCast, List.length_set, List.set_set]) a k (fun x hx => h.2 x hx) (by omega) h0 hk]
  rfl

theorem mark_SeenS (a : List DSeen) (k : Int) (h : (smL smDSeen) a) (h0 : 0 ≤ k) (hk : k + ((sumL cnDSeen) a : Int) ≤ 2305843009213693952) : x_laws_markSeenS a k = some (k + ((sumL cnDSeen) a : Int), (mkL cnDSeen mkDSeen) a k) := by
  unfold x_laws_markSeenS
  have hl := h.1
  rw [markLoop smDSeen cnDSeen mkDSeen (x_laws_markSeenS_f0) (fun k i l hi hl h0 hp hk => by
    obtain ⟨hp0, hp1, hp2⟩ := id hp
    unfold cnDSeen at hk
    try simp only [cnI] at hk
    simp (disch := first | assumption | omega | rfl) only [x_laws_markSeenS_f0, x_laws_markSeenS_b0, cd_t, xg_I, xg_of, Int.toNat_natCast, List.length_set, el_set, List.set_set]
    simp only [cnDSeen, mkDSeen, mkI, cnI, Int.natCast_add, Int.natCast_one, Int.add_assoc]
    try rfl
    ) (fun k l => by simp (disch := first | assumption | omega | rfl) only [x_laws_markSeenS_f0, x_laws_markSeenS_b0, cd_f, Int.toNat_natCast, List.length_set, List.set_set]) a k (fun x hx => h.2 x hx) (by omega) h0 hk]
  rfl

theorem mark_Doc (a : DDoc) (k : Int) (h : smDDoc a) (h0 : 0 ≤ k) (hk : k + (cvDDoc a : Int) ≤ 2305843009213693952) : x_laws_markDoc a k = some (k + (cvDDoc a : Int), mvDDoc a k) := by
  unfold x_laws_markDoc
  obtain ⟨h0, h1, h2, h3, h4⟩ := id h
  unfold cvDDoc at hk
  simp (disch := first | assumption | omega | rfl) only [Option.bind_some, mark_IntS, mark_EntryS, mark_SeenS]
  simp only [cvDDoc, mvDDoc, Int.natCast_add, Int.add_assoc]
  try rfl

theorem mark_ByteS (a : List UInt8) (k : Int) (h : (smL smY) a) (h0 : 0 ≤ k) (hk : k + ((sumL cnY) a : Int) ≤ 2305843009213693952) : x_laws_markByteS a k = some (k + ((sumL cnY) a : Int), (mkL cnY mkY) a k) := by
  unfold x_laws_markByteS
  have hl := h.1
  rw [markLoop smY cnY mkY (x_laws_markByteS_f0) (fun k i l hi hl h0 hp hk => by
    try simp only [cnY] at hk
    simp (disch := first | assumption | omega | rfl) only [x_laws_markByteS_f0, x_laws_markByteS_b0, cd_t, xg_I, xg_of, Int.toNat_natCast]
    try rfl
    ) (fun k l => by simp (disch := first | assumption | omega | rfl) only [x_laws_markByteS_f0, x_laws_markByteS_b0, cd_f, Int.toNat_natCast]) a k (fun x hx => h.2 x hx) (by omega) h0 hk]
  rfl

theorem held_ByteS (a : List UInt8) (k : Int) (h : (smL smY) a) (h0 : 0 ≤ k) (hk : k + ((sumL cnY) a : Int) ≤ 2305843009213693952) : x_laws_heldByteS ((mkL cnY mkY) a k) k = some (k + ((sumL cnY) a : Int)) := by
  unfold x_laws_heldByteS
  have hl := h.1
  rw [heldLoop smY cnY mkY ((mkL cnY mkY) a k) (x_laws_heldByteS_f0 ((mkL cnY mkY) a k)) (fun k i x hi hl h0 hp hk e => by
    try simp only [cnY] at hk
    simp (disch := first | assumption | omega | rfl) only [x_laws_heldByteS_f0, x_laws_heldByteS_b0, e, mkY, cd_n, cd_t, xg_I, xg_of, Int.toNat_natCast]
    try rfl
    ) (fun k => by simp (disch := first | assumption | omega | rfl) only [x_laws_heldByteS_f0, x_laws_heldByteS_b0, cd_n, cd_f, Int.toNat_natCast]) a k rfl (fun x hx => h.2 x hx) (by omega) h0 hk]
  rfl

end Go.Proofs.Ytbapjbanejimiaa
