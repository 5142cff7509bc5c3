/- Laws of the helpers. No condition. -/
import Derived.Test.YtbapjbanejimiaaTX
import Derived.Test.YtbapjbanejimiaaAx
namespace Go.Proofs.Ytbapjbanejimiaa

theorem sz_IntS (a : List Int) (y : Int) (h : (wfL wfI) a) (h0 : 0 ≤ y) (h1 : y ≤ 4611686018427387904) : x_laws_szIntS a y = some (if ((lenL szI) a : Int) ≤ y then y - (lenL szI) a else -1) := by
  unfold x_laws_szIntS
  have hl := h.1
  have hz : (lenL szI) a = a.length := lenL_z (fun _ => rfl) _
  rw [hz]
  simp (disch := first | assumption | omega | rfl) only [xg_I]
  by_cases hc : y - (a.length : Int) < 0
  · rw [cd_t hc, if_neg (by omega)]
  · rw [cd_f hc, if_pos (by omega)]

theorem sz_Part (a : DPart) (y : Int) (h : wfDPart a) (h0 : 0 ≤ y) (h1 : y ≤ 4611686018427387904) : x_laws_szPart a y = some (if (szDPart a : Int) ≤ y then y - szDPart a else -1) := by
  unfold x_laws_szPart
  obtain ⟨h0, h1, h2⟩ := id h
  unfold szDPart
  by_cases hz0 : ((lenL szI) a.signs : Int) ≤ y
  case neg =>
    rw [if_neg (by omega)]
    simp (disch := first | assumption | omega | rfl) only [cd_t, Option.bind_some, sz_IntS, if_neg]
  rw [if_pos (by omega)]
  simp (disch := first | assumption | omega | rfl) only [cd_f, Option.bind_some, sz_IntS, if_pos]
  try rfl

theorem sz_PartS (a : List DPart) (y : Int) (h : (wfL wfDPart) a) (h0 : 0 ≤ y) (h1 : y ≤ 4611686018427387904) : x_laws_szPartS a y = some (if ((lenL szDPart) a : Int) ≤ y then y - (lenL szDPart) a else -1) := by
  unfold x_laws_szPartS
  have hl := h.1
  simp (disch := first | assumption | omega | rfl) only [xg_I]
  by_cases hc : y - (a.length : Int) < 0
  · rw [cd_t hc, lenL_eq, if_neg (by omega)]
  · rw [cd_f hc, szLoop szDPart a (x_laws_szPartS_f0 a) (fun i y hi hy hy2 => by
      have hm := h.2 _ (el_mem hi)
      simp (disch := first | assumption | omega | rfl) only [x_laws_szPartS_f0, x_laws_szPartS_b0, cd_t, xg_I, xg_of, Int.toNat_natCast, Option.bind_some, sz_Part]
      by_cases hz : (szDPart (el a i) : Int) ≤ y
      · rw [if_pos hz, if_pos hz, cd_f (by omega)]
      · rw [if_neg hz, if_neg hz, cd_t (by omega)]
      ) (fun y => by simp (disch := first | assumption | omega | rfl) only [x_laws_szPartS_f0, x_laws_szPartS_b0, cd_f, xg_I, Int.toNat_natCast]) _ (by omega) (by omega)]
    rw [lenL_eq]
    by_cases hz : (sumL szDPart a : Int) ≤ y - a.length
    · rw [if_pos hz, if_pos (by omega)]; simp only [Option.bind_some, Sum.elim_inl, Option.some.injEq]; omega
    · rw [if_neg hz, if_neg (by omega)]; rfl

theorem sz_Call (a : DCall) (y : Int) (h : wfDCall a) (h0 : 0 ≤ y) (h1 : y ≤ 4611686018427387904) : x_laws_szCall a y = some (if (szDCall a : Int) ≤ y then y - szDCall a else -1) := by
  unfold x_laws_szCall
  obtain ⟨h0, h1, h2, h3, h4, h5, h6⟩ := id h
  unfold wfT at h1
  have hZ : szDCall a = a.doc.size + (lenL szDPart) a.o + (lenL szI) a.text := rfl
  by_cases hz0 : (a.doc.size : Int) ≤ y
  case neg =>
    rw [if_neg (by omega)]
    simp (disch := first | assumption | omega | rfl) only [cd_t, xg_I]
  by_cases hz1 : ((lenL szDPart) a.o : Int) ≤ y - (a.doc.size : Int)
  case neg =>
    rw [if_neg (by omega)]
    simp (disch := first | assumption | omega | rfl) only [cd_t, cd_f, xg_I, Option.bind_some, sz_PartS, if_neg]
  by_cases hz2 : ((lenL szI) a.text : Int) ≤ y - (a.doc.size : Int) - ((lenL szDPart) a.o : Int)
  case neg =>
    rw [if_neg (by omega)]
    simp (disch := first | assumption | omega | rfl) only [cd_t, cd_f, xg_I, Option.bind_some, sz_IntS, sz_PartS, if_pos, if_neg]
  rw [if_pos (by omega)]
  simp (disch := first | assumption | omega | rfl) only [cd_f, xg_I, Option.bind_some, sz_IntS, sz_PartS, if_pos]
  simp only [Option.some.injEq]; omega

theorem sz_Entry (a : DEntry) (y : Int) (h : wfDEntry a) (h0 : 0 ≤ y) (h1 : y ≤ 4611686018427387904) : x_laws_szEntry a y = some (if (szDEntry a : Int) ≤ y then y - szDEntry a else -1) := by
  unfold x_laws_szEntry
  obtain ⟨h0, h1, h2⟩ := id h
  unfold szDEntry
  by_cases hz0 : ((lenL szDPart) a.o : Int) ≤ y
  case neg =>
    rw [if_neg (by omega)]
    simp (disch := first | assumption | omega | rfl) only [cd_t, Option.bind_some, sz_PartS, if_neg]
  rw [if_pos (by omega)]
  simp (disch := first | assumption | omega | rfl) only [cd_f, Option.bind_some, sz_PartS, if_pos]
  try rfl

theorem sz_EntryS (a : List DEntry) (y : Int) (h : (wfL wfDEntry) a) (h0 : 0 ≤ y) (h1 : y ≤ 4611686018427387904) : x_laws_szEntryS a y = some (if ((lenL szDEntry) a : Int) ≤ y then y - (lenL szDEntry) a else -1) := by
  unfold x_laws_szEntryS
  have hl := h.1
  simp (disch := first | assumption | omega | rfl) only [xg_I]
  by_cases hc : y - (a.length : Int) < 0
  · rw [cd_t hc, lenL_eq, if_neg (by omega)]
  · rw [cd_f hc, szLoop szDEntry a (x_laws_szEntryS_f0 a) (fun i y hi hy hy2 => by
      have hm := h.2 _ (el_mem hi)
      simp (disch := first | assumption | omega | rfl) only [x_laws_szEntryS_f0, x_laws_szEntryS_b0, cd_t, xg_I, xg_of, Int.toNat_natCast, Option.bind_some, sz_Entry]
      by_cases hz : (szDEntry (el a i) : Int) ≤ y
      · rw [if_pos hz, if_pos hz, cd_f (by omega)]
      · rw [if_neg hz, if_neg hz, cd_t (by omega)]
      ) (fun y => by simp (disch := first | assumption | omega | rfl) only [x_laws_szEntryS_f0, x_laws_szEntryS_b0, cd_f, xg_I, Int.toNat_natCast]) _ (by omega) (by omega)]
    rw [lenL_eq]
    by_cases hz : (sumL szDEntry a : Int) ≤ y - a.length
    · rw [if_pos hz, if_pos (by omega)]; simp only [Option.bind_some, Sum.elim_inl, Option.some.injEq]; omega
    · rw [if_neg hz, if_neg (by omega)]; rfl

theorem sz_Answer (a : DAnswer) (y : Int) (h : wfDAnswer a) (h0 : 0 ≤ y) (h1 : y ≤ 4611686018427387904) : x_laws_szAnswer a y = some (if (szDAnswer a : Int) ≤ y then y - szDAnswer a else -1) := by
  unfold x_laws_szAnswer
  obtain ⟨h0, h1, h2, h3⟩ := id h
  unfold szDAnswer
  by_cases hz0 : ((lenL szI) a.text : Int) ≤ y
  case neg =>
    rw [if_neg (by omega)]
    simp (disch := first | assumption | omega | rfl) only [cd_t, Option.bind_some, sz_IntS, if_neg]
  by_cases hz1 : ((lenL szDEntry) a.list : Int) ≤ y - ((lenL szI) a.text : Int)
  case neg =>
    rw [if_neg (by omega)]
    simp (disch := first | assumption | omega | rfl) only [cd_t, cd_f, Option.bind_some, sz_IntS, sz_EntryS, if_pos, if_neg]
  rw [if_pos (by omega)]
  simp (disch := first | assumption | omega | rfl) only [cd_f, Option.bind_some, sz_IntS, sz_EntryS, if_pos]
  simp only [Option.some.injEq]; omega

theorem sz_Task (a : DTask) (y : Int) (h : wfDTask a) (h0 : 0 ≤ y) (h1 : y ≤ 4611686018427387904) : x_laws_szTask a y = some (if (szDTask a : Int) ≤ y then y - szDTask a else -1) := by
  unfold x_laws_szTask
  obtain ⟨h0, h1, h2, h3, h4, h5⟩ := id h
  obtain ⟨h00, h01, h02, h03, h04, h05, h06⟩ := id h0
  obtain ⟨h50, h51, h52, h53⟩ := id h5
  unfold szDTask
  by_cases hz0 : (szDCall a.c : Int) ≤ y
  case neg =>
    rw [if_neg (by omega)]
    simp (disch := first | assumption | omega | rfl) only [cd_t, Option.bind_some, sz_Call, if_neg]
  by_cases hz1 : (szDAnswer a.a : Int) ≤ y - (szDCall a.c : Int)
  case neg =>
    rw [if_neg (by omega)]
    simp (disch := first | assumption | omega | rfl) only [cd_t, cd_f, Option.bind_some, sz_Call, sz_Answer, if_pos, if_neg]
  rw [if_pos (by omega)]
  simp (disch := first | assumption | omega | rfl) only [cd_f, Option.bind_some, sz_Call, sz_Answer, if_pos]
  simp only [Option.some.injEq]; omega

theorem to_IntS (a : List Int) (h : (smL smI) a) : x_laws_toIntS a = some a := by
  unfold x_laws_toIntS
  have hl := h.1
  have hx := toLoop a 0 (x_laws_toIntS_f0 a) (fun i l hi hi2 => by
    have hm := h.2 _ (el_mem hi)
    simp (disch := first | assumption | omega | rfl) only [x_laws_toIntS_f0, x_laws_toIntS_b0, cd_t, xg_I, xg_of, Int.toNat_natCast]) (fun l => by simp (disch := first | assumption | omega | rfl) only [x_laws_toIntS_f0, x_laws_toIntS_b0, cd_f, xg_I, Int.toNat_natCast])
  rw [xg_of ⟨by omega, by omega⟩, Int.toNat_natCast, hx]
  rfl

theorem to_Part (a : DPart) (h : smDPart a) : x_laws_toPart a = some a := by
  unfold x_laws_toPart
  obtain ⟨h0, h1, h2⟩ := id h
  simp (disch := first | assumption | omega | rfl) only [Option.bind_some, to_IntS]

theorem to_PartS (a : List DPart) (h : (smL smDPart) a) : x_laws_toPartS a = some a := by
  unfold x_laws_toPartS
  have hl := h.1
  have hx := toLoop a (default : DPart) (x_laws_toPartS_f0 a) (fun i l hi hi2 => by
    have hm := h.2 _ (el_mem hi)
    obtain ⟨hm0, hm1, hm2⟩ := id hm
    simp (disch := first | assumption | omega | rfl) only [x_laws_toPartS_f0, x_laws_toPartS_b0, cd_t, xg_I, xg_of, Int.toNat_natCast, Option.bind_some, to_Part]) (fun l => by simp (disch := first | assumption | omega | rfl) only [x_laws_toPartS_f0, x_laws_toPartS_b0, cd_f, xg_I, Int.toNat_natCast])
  rw [xg_of ⟨by omega, by omega⟩, Int.toNat_natCast, hx]
  rfl

theorem to_Call (a : DCall) (h : smDCall a) : x_laws_toCall a = some a := by
  unfold x_laws_toCall
  obtain ⟨h0, h1, h2, h3, h4, h5, h6⟩ := id h
  simp (disch := first | assumption | omega | rfl) only [Option.bind_some, to_IntS, to_PartS]

theorem to_Entry (a : DEntry) (h : smDEntry a) : x_laws_toEntry a = some a := by
  unfold x_laws_toEntry
  obtain ⟨h0, h1, h2⟩ := id h
  simp (disch := first | assumption | omega | rfl) only [Option.bind_some, to_PartS]

theorem to_EntryS (a : List DEntry) (h : (smL smDEntry) a) : x_laws_toEntryS a = some a := by
  unfold x_laws_toEntryS
  have hl := h.1
  have hx := toLoop a (default : DEntry) (x_laws_toEntryS_f0 a) (fun i l hi hi2 => by
    have hm := h.2 _ (el_mem hi)
    obtain ⟨hm0, hm1, hm2⟩ := id hm
    simp (disch := first | assumption | omega | rfl) only [x_laws_toEntryS_f0, x_laws_toEntryS_b0, cd_t, xg_I, xg_of, Int.toNat_natCast, Option.bind_some, to_Entry]) (fun l => by simp (disch := first | assumption | omega | rfl) only [x_laws_toEntryS_f0, x_laws_toEntryS_b0, cd_f, xg_I, Int.toNat_natCast])
  rw [xg_of ⟨by omega, by omega⟩, Int.toNat_natCast, hx]
  rfl

theorem to_Answer (a : DAnswer) (h : smDAnswer a) : x_laws_toAnswer a = some a := by
  unfold x_laws_toAnswer
  obtain ⟨h0, h1, h2, h3⟩ := id h
  simp (disch := first | assumption | omega | rfl) only [Option.bind_some, to_IntS, to_EntryS]

theorem to_Task (a : DTask) (h : smDTask a) : x_laws_toTask a = some a := by
  unfold x_laws_toTask
  obtain ⟨h0, h1, h2, h3, h4, h5⟩ := id h
  obtain ⟨h00, h01, h02, h03, h04, h05, h06⟩ := id h0
  obtain ⟨h50, h51, h52, h53⟩ := id h5
  simp (disch := first | assumption | omega | rfl) only [Option.bind_some, to_Call, to_Answer]

theorem eq_IntS (a b : List Int) (h : (smL smI) a) : x_laws_eqIntS a b = some (decide (a = b)) := by
  unfold x_laws_eqIntS
  have hl := h.1
  by_cases hab : (a.length : Int) = (b.length : Int)
  · rw [cd_n, cd_t hab, eqLoop a b (x_laws_eqIntS_f0 a b) (by omega) (fun i hi hi2 => by
      have hm := h.2 _ (el_mem hi)
      simp (disch := first | assumption | omega | rfl) only [x_laws_eqIntS_f0, x_laws_eqIntS_b0, cd_n, cd_t, xg_I, xg_of, Int.toNat_natCast]) (by simp (disch := first | assumption | omega | rfl) only [x_laws_eqIntS_f0, x_laws_eqIntS_b0, cd_n, cd_f, xg_I, Int.toNat_natCast])]
    by_cases hq : a = b
    · rw [decide_eq_true hq]; rfl
    · rw [decide_eq_false hq]; rfl
  · have hq : a ≠ b := fun e => hab (by rw [e])
    rw [cd_n, cd_f hab, decide_eq_false hq]

theorem eq_Part (a b : DPart) (h : smDPart a) : x_laws_eqPart a b = some (decide (a = b)) := by
  unfold x_laws_eqPart
  obtain ⟨h0, h1, h2⟩ := id h
  have hq : (a = b) ↔ (a.kind = b.kind ∧ a.n = b.n ∧ a.signs = b.signs ∧ True) := by cases a; cases b; simp
  rw [show decide (a = b) = decide (a.kind = b.kind ∧ a.n = b.n ∧ a.signs = b.signs ∧ True) from decide_eq_decide.2 hq]
  try simp (disch := first | assumption | omega | rfl) only [Option.bind_some, eq_IntS]
  exact eqstep (eqstep (eqstep (rfl)))

theorem eq_PartS (a b : List DPart) (h : (smL smDPart) a) : x_laws_eqPartS a b = some (decide (a = b)) := by
  unfold x_laws_eqPartS
  have hl := h.1
  by_cases hab : (a.length : Int) = (b.length : Int)
  · rw [cd_n, cd_t hab, eqLoop a b (x_laws_eqPartS_f0 a b) (by omega) (fun i hi hi2 => by
      have hm := h.2 _ (el_mem hi)
      simp (disch := first | assumption | omega | rfl) only [x_laws_eqPartS_f0, x_laws_eqPartS_b0, cd_n, cd_t, xg_I, xg_of, Int.toNat_natCast, Option.bind_some, eq_Part]) (by simp (disch := first | assumption | omega | rfl) only [x_laws_eqPartS_f0, x_laws_eqPartS_b0, cd_n, cd_f, xg_I, Int.toNat_natCast])]
    by_cases hq : a = b
    · rw [decide_eq_true hq]; rfl
    · rw [decide_eq_false hq]; rfl
  · have hq : a ≠ b := fun e => hab (by rw [e])
    rw [cd_n, cd_f hab, decide_eq_false hq]

theorem eq_Call (a b : DCall) (h : smDCall a) : x_laws_eqCall a b = some (decide (a = b)) := by
  unfold x_laws_eqCall
  obtain ⟨h0, h1, h2, h3, h4, h5, h6⟩ := id h
  have hq : (a = b) ↔ (a.kind = b.kind ∧ a.doc = b.doc ∧ a.client = b.client ∧ a.seq = b.seq ∧ a.n = b.n ∧ a.o = b.o ∧ a.text = b.text ∧ True) := by cases a; cases b; simp
  rw [show decide (a = b) = decide (a.kind = b.kind ∧ a.doc = b.doc ∧ a.client = b.client ∧ a.seq = b.seq ∧ a.n = b.n ∧ a.o = b.o ∧ a.text = b.text ∧ True) from decide_eq_decide.2 hq]
  try simp (disch := first | assumption | omega | rfl) only [Option.bind_some, eq_IntS, eq_PartS]
  exact eqstep (eqstep (eqstep (eqstep (eqstep (eqstep (eqstep (rfl)))))))

theorem eq_Entry (a b : DEntry) (h : smDEntry a) : x_laws_eqEntry a b = some (decide (a = b)) := by
  unfold x_laws_eqEntry
  obtain ⟨h0, h1, h2⟩ := id h
  have hq : (a = b) ↔ (a.client = b.client ∧ a.seq = b.seq ∧ a.o = b.o ∧ True) := by cases a; cases b; simp
  rw [show decide (a = b) = decide (a.client = b.client ∧ a.seq = b.seq ∧ a.o = b.o ∧ True) from decide_eq_decide.2 hq]
  try simp (disch := first | assumption | omega | rfl) only [Option.bind_some, eq_PartS]
  exact eqstep (eqstep (eqstep (rfl)))

theorem eq_EntryS (a b : List DEntry) (h : (smL smDEntry) a) : x_laws_eqEntryS a b = some (decide (a = b)) := by
  unfold x_laws_eqEntryS
  have hl := h.1
  by_cases hab : (a.length : Int) = (b.length : Int)
  · rw [cd_n, cd_t hab, eqLoop a b (x_laws_eqEntryS_f0 a b) (by omega) (fun i hi hi2 => by
      have hm := h.2 _ (el_mem hi)
      simp (disch := first | assumption | omega | rfl) only [x_laws_eqEntryS_f0, x_laws_eqEntryS_b0, cd_n, cd_t, xg_I, xg_of, Int.toNat_natCast, Option.bind_some, eq_Entry]) (by simp (disch := first | assumption | omega | rfl) only [x_laws_eqEntryS_f0, x_laws_eqEntryS_b0, cd_n, cd_f, xg_I, Int.toNat_natCast])]
    by_cases hq : a = b
    · rw [decide_eq_true hq]; rfl
    · rw [decide_eq_false hq]; rfl
  · have hq : a ≠ b := fun e => hab (by rw [e])
    rw [cd_n, cd_f hab, decide_eq_false hq]

theorem eq_Answer (a b : DAnswer) (h : smDAnswer a) : x_laws_eqAnswer a b = some (decide (a = b)) := by
  unfold x_laws_eqAnswer
  obtain ⟨h0, h1, h2, h3⟩ := id h
  have hq : (a = b) ↔ (a.code = b.code ∧ a.rev = b.rev ∧ a.text = b.text ∧ a.list = b.list ∧ True) := by cases a; cases b; simp
  rw [show decide (a = b) = decide (a.code = b.code ∧ a.rev = b.rev ∧ a.text = b.text ∧ a.list = b.list ∧ True) from decide_eq_decide.2 hq]
  try simp (disch := first | assumption | omega | rfl) only [Option.bind_some, eq_IntS, eq_EntryS]
  exact eqstep (eqstep (eqstep (eqstep (rfl))))

theorem eq_Task (a b : DTask) (h : smDTask a) : x_laws_eqTask a b = some (decide (a = b)) := by
  unfold x_laws_eqTask
  obtain ⟨h0, h1, h2, h3, h4, h5⟩ := id h
  obtain ⟨h00, h01, h02, h03, h04, h05, h06⟩ := id h0
  obtain ⟨h50, h51, h52, h53⟩ := id h5
  have hq : (a = b) ↔ (a.c = b.c ∧ a.pc = b.pc ∧ a.inv = b.inv ∧ a.lin = b.lin ∧ a.res = b.res ∧ a.a = b.a ∧ True) := by cases a; cases b; simp
  rw [show decide (a = b) = decide (a.c = b.c ∧ a.pc = b.pc ∧ a.inv = b.inv ∧ a.lin = b.lin ∧ a.res = b.res ∧ a.a = b.a ∧ True) from decide_eq_decide.2 hq]
  try simp (disch := first | assumption | omega | rfl) only [Option.bind_some, eq_Call, eq_Answer]
  exact eqstep (eqstep (eqstep (eqstep (eqstep (eqstep (rfl))))))

end Go.Proofs.Ytbapjbanejimiaa
