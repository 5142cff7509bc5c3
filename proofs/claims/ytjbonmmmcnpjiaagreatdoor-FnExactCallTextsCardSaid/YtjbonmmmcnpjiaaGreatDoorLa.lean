/- Laws of the helpers. No condition. -/
import Derived.Test.YtjbonmmmcnpjiaaGreatDoorLW
import Derived.Test.YtjbonmmmcnpjiaaGreatDoorAx
namespace Go.Proofs.YtjbonmmmcnpjiaaGreatDoor

theorem bset {T β : Type} [Inhabited T] {l : List T} {i : Nat} {v : T} {g : List T → Option β} {r : Option β} (hi : i < l.length) (h : ∀ l', l'.length = l.length → el l' i = v → (∀ y, l'.set i y = l.set i y) → l' = l.set i v → g l' = r) : Option.bind (nm (l.set i v)) g = r :=
  h _ List.length_set (el_set hi) (fun _ => List.set_set ..) rfl

theorem mk_textL : ∀ (f : Nat) (n : Int) (s : ByteArray), 0 ≤ n → n ≤ f → s.size + f ≤ 2305843009213693952 → iter (x_laws_markText_f0) (n, s) = some (0, mdig f n s) ∧ (mdig f n s).size ≤ 2305843009213693952
  | 0, n, s, h0, h1, h3 => by
    obtain rfl : n = 0 := by omega
    rw [iter_eq]
    unfold x_laws_markText_f0 x_laws_markText_b0
    rw [cd_f (by omega)]
    exact ⟨rfl, by simp only [mdig]; omega⟩
  | f + 1, n, s, h0, h1, h3 => by
    rw [iter_eq]
    unfold x_laws_markText_f0 x_laws_markText_b0 mdig
    by_cases h : 0 < n
    · have e : (⟨[y8 (48 + (n % 10))].toArray⟩ : ByteArray).size = 1 := rfl
      have hs : ((⟨[y8 (48 + (n % 10))].toArray⟩ : ByteArray) ++ s).size = 1 + s.size := by rw [ByteArray.size_append, e]
      have ih := mk_textL f (n / 10) ((⟨[y8 (48 + (n % 10))].toArray⟩ : ByteArray) ++ s) (by omega) (by omega) (by omega)
      rw [cd_t h, if_pos h, xg_of ⟨h0, by omega⟩, xg_I (by omega) (by omega), xg_of (by rw [e]; show 1 + s.size ≤ _; omega), xg_of ⟨h0, by omega, by omega⟩]
      exact ih
    · obtain rfl : n = 0 := by omega
      rw [cd_f h, if_neg h]
      exact ⟨rfl, by omega⟩
theorem mk_text (k : Int) (h0 : 0 ≤ k) (hk : k ≤ 2305843009213693952) : x_laws_markText k = some (mkTx k, k) := by
  unfold x_laws_markText mkTx
  by_cases h : k ≤ 0
  · rw [cd_t h, if_pos h]
  · obtain ⟨h1, h2⟩ := mk_textL k.toNat k ⟨#[]⟩ h0 (by omega) (by show 0 + _ ≤ _; omega)
    rw [cd_f h, if_neg h, h1, Option.bind_some, xg_of (by show 1 + (mdig k.toNat k ⟨#[]⟩).size ≤ _; omega)]

theorem to_IntS (a : List Int) (h : (smL smI) a) : x_laws_toIntS a = some a := by
  unfold x_laws_toIntS
  have hl := h.1
  have hx := toLoop a 0 (x_laws_toIntS_f0 a) (fun i l hi hi2 => by
    have hm := h.2 _ (el_mem hi)
    simp (disch := first | assumption | omega | rfl) only [x_laws_toIntS_f0, x_laws_toIntS_b0, cd_t, xg_I, xg_of, Int.toNat_natCast]) (fun l => by simp (disch := first | assumption | omega | rfl) only [x_laws_toIntS_f0, x_laws_toIntS_b0, cd_f, xg_I, Int.toNat_natCast])
  rw [xg_of ⟨by omega, by omega⟩, Int.toNat_natCast, hx]
  rfl

theorem to_Part (a : DPart) (h : smDPart a) : x_laws_toPart a = some a := by
  unfold x_laws_toPart
  obtain ⟨h0, h1, h2⟩ := id h
  simp (disch := first | assumption | omega | rfl) only [Option.bind_some, to_IntS]

theorem to_PartS (a : List DPart) (h : (smL smDPart) a) : x_laws_toPartS a = some a := by
  unfold x_laws_toPartS
  have hl := h.1
  have hx := toLoop a (default : DPart) (x_laws_toPartS_f0 a) (fun i l hi hi2 => by
    have hm := h.2 _ (el_mem hi)
    obtain ⟨hm0, hm1, hm2⟩ := id hm
    simp (disch := first | assumption | omega | rfl) only [x_laws_toPartS_f0, x_laws_toPartS_b0, cd_t, xg_I, xg_of, Int.toNat_natCast, Option.bind_some, to_Part]) (fun l => by simp (disch := first | assumption | omega | rfl) only [x_laws_toPartS_f0, x_laws_toPartS_b0, cd_f, xg_I, Int.toNat_natCast])
  rw [xg_of ⟨by omega, by omega⟩, Int.toNat_natCast, hx]
  rfl

theorem to_Entry (a : DEntry) (h : smDEntry a) : x_laws_toEntry a = some a := by
  unfold x_laws_toEntry
  obtain ⟨h0, h1, h2⟩ := id h
  simp (disch := first | assumption | omega | rfl) only [Option.bind_some, to_PartS]

theorem to_EntryS (a : List DEntry) (h : (smL smDEntry) a) : x_laws_toEntryS a = some a := by
  unfold x_laws_toEntryS
  have hl := h.1
  have hx := toLoop a (default : DEntry) (x_laws_toEntryS_f0 a) (fun i l hi hi2 => by
    have hm := h.2 _ (el_mem hi)
    obtain ⟨hm0, hm1, hm2⟩ := id hm
    simp (disch := first | assumption | omega | rfl) only [x_laws_toEntryS_f0, x_laws_toEntryS_b0, cd_t, xg_I, xg_of, Int.toNat_natCast, Option.bind_some, to_Entry]) (fun l => by simp (disch := first | assumption | omega | rfl) only [x_laws_toEntryS_f0, x_laws_toEntryS_b0, cd_f, xg_I, Int.toNat_natCast])
  rw [xg_of ⟨by omega, by omega⟩, Int.toNat_natCast, hx]
  rfl

theorem to_Seen (a : DSeen) (h : smDSeen a) : x_laws_toSeen a = some a := by
  unfold x_laws_toSeen
  obtain ⟨h0, h1, h2⟩ := id h
  simp (disch := first | assumption | omega | rfl) only

theorem to_SeenS (a : List DSeen) (h : (smL smDSeen) a) : x_laws_toSeenS a = some a := by
  unfold x_laws_toSeenS
  have hl := h.1
  have hx := toLoop a (default : DSeen) (x_laws_toSeenS_f0 a) (fun i l hi hi2 => by
    have hm := h.2 _ (el_mem hi)
    obtain ⟨hm0, hm1, hm2⟩ := id hm
    simp (disch := first | assumption | omega | rfl) only [x_laws_toSeenS_f0, x_laws_toSeenS_b0, cd_t, xg_I, xg_of, Int.toNat_natCast, Option.bind_some, to_Seen]) (fun l => by simp (disch := first | assumption | omega | rfl) only [x_laws_toSeenS_f0, x_laws_toSeenS_b0, cd_f, xg_I, Int.toNat_natCast])
  rw [xg_of ⟨by omega, by omega⟩, Int.toNat_natCast, hx]
  rfl

theorem to_Doc (a : DDoc) (h : smDDoc a) : x_laws_toDoc a = some a := by
  unfold x_laws_toDoc
  obtain ⟨h0, h1, h2, h3, h4⟩ := id h
  simp (disch := first | assumption | omega | rfl) only [Option.bind_some, to_IntS, to_EntryS, to_SeenS]

theorem to_DocS (a : List DDoc) (h : (smL smDDoc) a) : x_laws_toDocS a = some a := by
  unfold x_laws_toDocS
  have hl := h.1
  have hx := toLoop a (default : DDoc) (x_laws_toDocS_f0 a) (fun i l hi hi2 => by
    have hm := h.2 _ (el_mem hi)
    obtain ⟨hm0, hm1, hm2, hm3, hm4⟩ := id hm
    simp (disch := first | assumption | omega | rfl) only [x_laws_toDocS_f0, x_laws_toDocS_b0, cd_t, xg_I, xg_of, Int.toNat_natCast, Option.bind_some, to_Doc]) (fun l => by simp (disch := first | assumption | omega | rfl) only [x_laws_toDocS_f0, x_laws_toDocS_b0, cd_f, xg_I, Int.toNat_natCast])
  rw [xg_of ⟨by omega, by omega⟩, Int.toNat_natCast, hx]
  rfl

theorem to_Ring (a : DRing) (h : smDRing a) : x_laws_toRing a = some a := by
  unfold x_laws_toRing
  obtain ⟨h0, h1, h2, h3⟩ := id h
  simp (disch := first | assumption | omega | rfl) only [Option.bind_some, to_EntryS]

theorem to_Sub (a : DSub) (h : smDSub a) : x_laws_toSub a = some a := by
  unfold x_laws_toSub
  obtain ⟨h0, h1, h2⟩ := id h
  obtain ⟨h20, h21, h22, h23⟩ := id h2
  simp (disch := first | assumption | omega | rfl) only [Option.bind_some, to_Ring]

theorem to_SubS (a : List DSub) (h : (smL smDSub) a) : x_laws_toSubS a = some a := by
  unfold x_laws_toSubS
  have hl := h.1
  have hx := toLoop a (default : DSub) (x_laws_toSubS_f0 a) (fun i l hi hi2 => by
    have hm := h.2 _ (el_mem hi)
    obtain ⟨hm0, hm1, hm2⟩ := id hm
    obtain ⟨hm20, hm21, hm22, hm23⟩ := id hm2
    simp (disch := first | assumption | omega | rfl) only [x_laws_toSubS_f0, x_laws_toSubS_b0, cd_t, xg_I, xg_of, Int.toNat_natCast, Option.bind_some, to_Sub]) (fun l => by simp (disch := first | assumption | omega | rfl) only [x_laws_toSubS_f0, x_laws_toSubS_b0, cd_f, xg_I, Int.toNat_natCast])
  rw [xg_of ⟨by omega, by omega⟩, Int.toNat_natCast, hx]
  rfl

theorem to_Hub (a : DHub) (h : smDHub a) : x_laws_toHub a = some a := by
  unfold x_laws_toHub
  obtain ⟨h0, h1, h2, h3⟩ := id h
  simp (disch := first | assumption | omega | rfl) only [Option.bind_some, to_DocS, to_SubS]

theorem to_Queue (a : DQueue) (h : smDQueue a) : x_laws_toQueue a = some a := by
  unfold x_laws_toQueue
  obtain ⟨h0, h1⟩ := id h
  simp (disch := first | assumption | omega | rfl) only [Option.bind_some, to_IntS]

theorem to_QueueS (a : List DQueue) (h : (smL smDQueue) a) : x_laws_toQueueS a = some a := by
  unfold x_laws_toQueueS
  have hl := h.1
  have hx := toLoop a (default : DQueue) (x_laws_toQueueS_f0 a) (fun i l hi hi2 => by
    have hm := h.2 _ (el_mem hi)
    obtain ⟨hm0, hm1⟩ := id hm
    simp (disch := first | assumption | omega | rfl) only [x_laws_toQueueS_f0, x_laws_toQueueS_b0, cd_t, xg_I, xg_of, Int.toNat_natCast, Option.bind_some, to_Queue]) (fun l => by simp (disch := first | assumption | omega | rfl) only [x_laws_toQueueS_f0, x_laws_toQueueS_b0, cd_f, xg_I, Int.toNat_natCast])
  rw [xg_of ⟨by omega, by omega⟩, Int.toNat_natCast, hx]
  rfl

theorem to_Call (a : DCall) (h : smDCall a) : x_laws_toCall a = some a := by
  unfold x_laws_toCall
  obtain ⟨h0, h1, h2, h3, h4, h5, h6⟩ := id h
  simp (disch := first | assumption | omega | rfl) only [Option.bind_some, to_IntS, to_PartS]

theorem to_Answer (a : DAnswer) (h : smDAnswer a) : x_laws_toAnswer a = some a := by
  unfold x_laws_toAnswer
  obtain ⟨h0, h1, h2, h3⟩ := id h
  simp (disch := first | assumption | omega | rfl) only [Option.bind_some, to_IntS, to_EntryS]

theorem to_Task (a : DTask) (h : smDTask a) : x_laws_toTask a = some a := by
  unfold x_laws_toTask
  obtain ⟨h0, h1, h2, h3, h4, h5⟩ := id h
  obtain ⟨h00, h01, h02, h03, h04, h05, h06⟩ := id h0
  obtain ⟨h50, h51, h52, h53⟩ := id h5
  simp (disch := first | assumption | omega | rfl) only [Option.bind_some, to_Call, to_Answer]

theorem to_TaskS (a : List DTask) (h : (smL smDTask) a) : x_laws_toTaskS a = some a := by
  unfold x_laws_toTaskS
  have hl := h.1
  have hx := toLoop a (default : DTask) (x_laws_toTaskS_f0 a) (fun i l hi hi2 => by
    have hm := h.2 _ (el_mem hi)
    obtain ⟨hm0, hm1, hm2, hm3, hm4, hm5⟩ := id hm
    obtain ⟨hm00, hm01, hm02, hm03, hm04, hm05, hm06⟩ := id hm0
    obtain ⟨hm50, hm51, hm52, hm53⟩ := id hm5
    simp (disch := first | assumption | omega | rfl) only [x_laws_toTaskS_f0, x_laws_toTaskS_b0, cd_t, xg_I, xg_of, Int.toNat_natCast, Option.bind_some, to_Task]) (fun l => by simp (disch := first | assumption | omega | rfl) only [x_laws_toTaskS_f0, x_laws_toTaskS_b0, cd_f, xg_I, Int.toNat_natCast])
  rw [xg_of ⟨by omega, by omega⟩, Int.toNat_natCast, hx]
  rfl

theorem to_World (a : DWorld) (h : smDWorld a) : x_laws_toWorld a = some a := by
  unfold x_laws_toWorld
  obtain ⟨h0, h1, h2, h3, h4⟩ := id h
  obtain ⟨h00, h01, h02, h03⟩ := id h0
  simp (disch := first | assumption | omega | rfl) only [Option.bind_some, to_IntS, to_Hub, to_QueueS, to_TaskS]

theorem eq_IntS (a b : List Int) (h : (smL smI) a) : x_laws_eqIntS a b = some (decide (a = b)) := by
  unfold x_laws_eqIntS
  have hl := h.1
  by_cases hab : (a.length : Int) = (b.length : Int)
  · rw [cd_n, cd_t hab, eqLoop a b (x_laws_eqIntS_f0 a b) (by omega) (fun i hi hi2 => by
      have hm := h.2 _ (el_mem hi)
      simp (disch := first | assumption | omega | rfl) only [x_laws_eqIntS_f0, x_laws_eqIntS_b0, cd_n, cd_t, xg_I, xg_of, Int.toNat_natCast]) (by simp (disch := first | assumption | omega | rfl) only [x_laws_eqIntS_f0, x_laws_eqIntS_b0, cd_n, cd_f, xg_I, Int.toNat_natCast])]
    by_cases hq : a = b
    · rw [decide_eq_true hq]; rfl
    · rw [decide_eq_false hq]; rfl
  · have hq : a ≠ b := fun e => hab (by rw [e])
    rw [cd_n, cd_f hab, decide_eq_false hq]

theorem eq_Part (a b : DPart) (h : smDPart a) : x_laws_eqPart a b = some (decide (a = b)) := by
  unfold x_laws_eqPart
  obtain ⟨h0, h1, h2⟩ := id h
  have hq : (a = b) ↔ (a.kind = b.kind ∧ a.n = b.n ∧ a.signs = b.signs ∧ True) := by cases a; cases b; simp
  rw [show decide (a = b) = decide (a.kind = b.kind ∧ a.n = b.n ∧ a.signs = b.signs ∧ True) from decide_eq_decide.2 hq]
  try simp (disch := first | assumption | omega | rfl) only [Option.bind_some, eq_IntS]
  exact eqstep (eqstep (eqstep (rfl)))

theorem eq_PartS (a b : List DPart) (h : (smL smDPart) a) : x_laws_eqPartS a b = some (decide (a = b)) := by
  unfold x_laws_eqPartS
  have hl := h.1
  by_cases hab : (a.length : Int) = (b.length : Int)
  · rw [cd_n, cd_t hab, eqLoop a b (x_laws_eqPartS_f0 a b) (by omega) (fun i hi hi2 => by
      have hm := h.2 _ (el_mem hi)
      simp (disch := first | assumption | omega | rfl) only [x_laws_eqPartS_f0, x_laws_eqPartS_b0, cd_n, cd_t, xg_I, xg_of, Int.toNat_natCast, Option.bind_some, eq_Part]) (by simp (disch := first | assumption | omega | rfl) only [x_laws_eqPartS_f0, x_laws_eqPartS_b0, cd_n, cd_f, xg_I, Int.toNat_natCast])]
    by_cases hq : a = b
    · rw [decide_eq_true hq]; rfl
    · rw [decide_eq_false hq]; rfl
  · have hq : a ≠ b := fun e => hab (by rw [e])
    rw [cd_n, cd_f hab, decide_eq_false hq]

theorem eq_Entry (a b : DEntry) (h : smDEntry a) : x_laws_eqEntry a b = some (decide (a = b)) := by
  unfold x_laws_eqEntry
  obtain ⟨h0, h1, h2⟩ := id h
  have hq : (a = b) ↔ (a.client = b.client ∧ a.seq = b.seq ∧ a.o = b.o ∧ True) := by cases a; cases b; simp
  rw [show decide (a = b) = decide (a.client = b.client ∧ a.seq = b.seq ∧ a.o = b.o ∧ True) from decide_eq_decide.2 hq]
  try simp (disch := first | assumption | omega | rfl) only [Option.bind_some, eq_PartS]
  exact eqstep (eqstep (eqstep (rfl)))

theorem eq_EntryS (a b : List DEntry) (h : (smL smDEntry) a) : x_laws_eqEntryS a b = some (decide (a = b)) := by
  unfold x_laws_eqEntryS
  have hl := h.1
  by_cases hab : (a.length : Int) = (b.length : Int)
  · rw [cd_n, cd_t hab, eqLoop a b (x_laws_eqEntryS_f0 a b) (by omega) (fun i hi hi2 => by
      have hm := h.2 _ (el_mem hi)
      simp (disch := first | assumption | omega | rfl) only [x_laws_eqEntryS_f0, x_laws_eqEntryS_b0, cd_n, cd_t, xg_I, xg_of, Int.toNat_natCast, Option.bind_some, eq_Entry]) (by simp (disch := first | assumption | omega | rfl) only [x_laws_eqEntryS_f0, x_laws_eqEntryS_b0, cd_n, cd_f, xg_I, Int.toNat_natCast])]
    by_cases hq : a = b
    · rw [decide_eq_true hq]; rfl
    · rw [decide_eq_false hq]; rfl
  · have hq : a ≠ b := fun e => hab (by rw [e])
    rw [cd_n, cd_f hab, decide_eq_false hq]

theorem eq_Seen (a b : DSeen) (h : smDSeen a) : x_laws_eqSeen a b = some (decide (a = b)) := by
  unfold x_laws_eqSeen
  obtain ⟨h0, h1, h2⟩ := id h
  have hq : (a = b) ↔ (a.client = b.client ∧ a.seq = b.seq ∧ a.rev = b.rev ∧ True) := by cases a; cases b; simp
  rw [show decide (a = b) = decide (a.client = b.client ∧ a.seq = b.seq ∧ a.rev = b.rev ∧ True) from decide_eq_decide.2 hq]
  try simp (disch := first | assumption | omega | rfl) only [Option.bind_some, eq_IntS, eq_Part, eq_PartS, eq_Entry, eq_EntryS]
  exact eqstep (eqstep (eqstep (rfl)))

theorem eq_SeenS (a b : List DSeen) (h : (smL smDSeen) a) : x_laws_eqSeenS a b = some (decide (a = b)) := by
  unfold x_laws_eqSeenS
  have hl := h.1
  by_cases hab : (a.length : Int) = (b.length : Int)
  · rw [cd_n, cd_t hab, eqLoop a b (x_laws_eqSeenS_f0 a b) (by omega) (fun i hi hi2 => by
      have hm := h.2 _ (el_mem hi)
      simp (disch := first | assumption | omega | rfl) only [x_laws_eqSeenS_f0, x_laws_eqSeenS_b0, cd_n, cd_t, xg_I, xg_of, Int.toNat_natCast, Option.bind_some, eq_Seen]) (by simp (disch := first | assumption | omega | rfl) only [x_laws_eqSeenS_f0, x_laws_eqSeenS_b0, cd_n, cd_f, xg_I, Int.toNat_natCast])]
    by_cases hq : a = b
    · rw [decide_eq_true hq]; rfl
    · rw [decide_eq_false hq]; rfl
  · have hq : a ≠ b := fun e => hab (by rw [e])
    rw [cd_n, cd_f hab, decide_eq_false hq]

theorem eq_Doc (a b : DDoc) (h : smDDoc a) : x_laws_eqDoc a b = some (decide (a = b)) := by
  unfold x_laws_eqDoc
  obtain ⟨h0, h1, h2, h3, h4⟩ := id h
  have hq : (a = b) ↔ (a.name = b.name ∧ a.from_ = b.from_ ∧ a.text = b.text ∧ a.list = b.list ∧ a.seen = b.seen ∧ True) := by cases a; cases b; simp
  rw [show decide (a = b) = decide (a.name = b.name ∧ a.from_ = b.from_ ∧ a.text = b.text ∧ a.list = b.list ∧ a.seen = b.seen ∧ True) from decide_eq_decide.2 hq]
  try simp (disch := first | assumption | omega | rfl) only [Option.bind_some, eq_IntS, eq_EntryS, eq_SeenS]
  exact eqstep (eqstep (eqstep (eqstep (eqstep (rfl)))))

theorem eq_DocS (a b : List DDoc) (h : (smL smDDoc) a) : x_laws_eqDocS a b = some (decide (a = b)) := by
  unfold x_laws_eqDocS
  have hl := h.1
  by_cases hab : (a.length : Int) = (b.length : Int)
  · rw [cd_n, cd_t hab, eqLoop a b (x_laws_eqDocS_f0 a b) (by omega) (fun i hi hi2 => by
      have hm := h.2 _ (el_mem hi)
      simp (disch := first | assumption | omega | rfl) only [x_laws_eqDocS_f0, x_laws_eqDocS_b0, cd_n, cd_t, xg_I, xg_of, Int.toNat_natCast, Option.bind_some, eq_Doc]) (by simp (disch := first | assumption | omega | rfl) only [x_laws_eqDocS_f0, x_laws_eqDocS_b0, cd_n, cd_f, xg_I, Int.toNat_natCast])]
    by_cases hq : a = b
    · rw [decide_eq_true hq]; rfl
    · rw [decide_eq_false hq]; rfl
  · have hq : a ≠ b := fun e => hab (by rw [e])
    rw [cd_n, cd_f hab, decide_eq_false hq]

theorem eq_Ring (a b : DRing) (h : smDRing a) : x_laws_eqRing a b = some (decide (a = b)) := by
  unfold x_laws_eqRing
  obtain ⟨h0, h1, h2, h3⟩ := id h
  have hq : (a = b) ↔ (a.cap = b.cap ∧ a.next = b.next ∧ a.out = b.out ∧ a.list = b.list ∧ True) := by cases a; cases b; simp
  rw [show decide (a = b) = decide (a.cap = b.cap ∧ a.next = b.next ∧ a.out = b.out ∧ a.list = b.list ∧ True) from decide_eq_decide.2 hq]
  try simp (disch := first | assumption | omega | rfl) only [Option.bind_some, eq_EntryS]
  exact eqstep (eqstep (eqstep (eqstep (rfl))))

theorem eq_Sub (a b : DSub) (h : smDSub a) : x_laws_eqSub a b = some (decide (a = b)) := by
  unfold x_laws_eqSub
  obtain ⟨h0, h1, h2⟩ := id h
  obtain ⟨h20, h21, h22, h23⟩ := id h2
  have hq : (a = b) ↔ (a.id = b.id ∧ a.doc = b.doc ∧ a.r = b.r ∧ True) := by cases a; cases b; simp
  rw [show decide (a = b) = decide (a.id = b.id ∧ a.doc = b.doc ∧ a.r = b.r ∧ True) from decide_eq_decide.2 hq]
  try simp (disch := first | assumption | omega | rfl) only [Option.bind_some, eq_Ring]
  exact eqstep (eqstep (eqstep (rfl)))

theorem eq_SubS (a b : List DSub) (h : (smL smDSub) a) : x_laws_eqSubS a b = some (decide (a = b)) := by
  unfold x_laws_eqSubS
  have hl := h.1
  by_cases hab : (a.length : Int) = (b.length : Int)
  · rw [cd_n, cd_t hab, eqLoop a b (x_laws_eqSubS_f0 a b) (by omega) (fun i hi hi2 => by
      have hm := h.2 _ (el_mem hi)
      simp (disch := first | assumption | omega | rfl) only [x_laws_eqSubS_f0, x_laws_eqSubS_b0, cd_n, cd_t, xg_I, xg_of, Int.toNat_natCast, Option.bind_some, eq_Sub]) (by simp (disch := first | assumption | omega | rfl) only [x_laws_eqSubS_f0, x_laws_eqSubS_b0, cd_n, cd_f, xg_I, Int.toNat_natCast])]
    by_cases hq : a = b
    · rw [decide_eq_true hq]; rfl
    · rw [decide_eq_false hq]; rfl
  · have hq : a ≠ b := fun e => hab (by rw [e])
    rw [cd_n, cd_f hab, decide_eq_false hq]

theorem eq_Hub (a b : DHub) (h : smDHub a) : x_laws_eqHub a b = some (decide (a = b)) := by
  unfold x_laws_eqHub
  obtain ⟨h0, h1, h2, h3⟩ := id h
  have hq : (a = b) ↔ (a.shut = b.shut ∧ a.docs = b.docs ∧ a.subs = b.subs ∧ a.last = b.last ∧ True) := by cases a; cases b; simp
  rw [show decide (a = b) = decide (a.shut = b.shut ∧ a.docs = b.docs ∧ a.subs = b.subs ∧ a.last = b.last ∧ True) from decide_eq_decide.2 hq]
  try simp (disch := first | assumption | omega | rfl) only [Option.bind_some, eq_DocS, eq_SubS]
  exact eqstep (eqstep (eqstep (eqstep (rfl))))

theorem eq_Queue (a b : DQueue) (h : smDQueue a) : x_laws_eqQueue a b = some (decide (a = b)) := by
  unfold x_laws_eqQueue
  obtain ⟨h0, h1⟩ := id h
  have hq : (a = b) ↔ (a.doc = b.doc ∧ a.list = b.list ∧ True) := by cases a; cases b; simp
  rw [show decide (a = b) = decide (a.doc = b.doc ∧ a.list = b.list ∧ True) from decide_eq_decide.2 hq]
  try simp (disch := first | assumption | omega | rfl) only [Option.bind_some, eq_IntS]
  exact eqstep (eqstep (rfl))

theorem eq_QueueS (a b : List DQueue) (h : (smL smDQueue) a) : x_laws_eqQueueS a b = some (decide (a = b)) := by
  unfold x_laws_eqQueueS
  have hl := h.1
  by_cases hab : (a.length : Int) = (b.length : Int)
  · rw [cd_n, cd_t hab, eqLoop a b (x_laws_eqQueueS_f0 a b) (by omega) (fun i hi hi2 => by
      have hm := h.2 _ (el_mem hi)
      simp (disch := first | assumption | omega | rfl) only [x_laws_eqQueueS_f0, x_laws_eqQueueS_b0, cd_n, cd_t, xg_I, xg_of, Int.toNat_natCast, Option.bind_some, eq_Queue]) (by simp (disch := first | assumption | omega | rfl) only [x_laws_eqQueueS_f0, x_laws_eqQueueS_b0, cd_n, cd_f, xg_I, Int.toNat_natCast])]
    by_cases hq : a = b
    · rw [decide_eq_true hq]; rfl
    · rw [decide_eq_false hq]; rfl
  · have hq : a ≠ b := fun e => hab (by rw [e])
    rw [cd_n, cd_f hab, decide_eq_false hq]

theorem eq_Call (a b : DCall) (h : smDCall a) : x_laws_eqCall a b = some (decide (a = b)) := by
  unfold x_laws_eqCall
  obtain ⟨h0, h1, h2, h3, h4, h5, h6⟩ := id h
  have hq : (a = b) ↔ (a.kind = b.kind ∧ a.doc = b.doc ∧ a.client = b.client ∧ a.seq = b.seq ∧ a.n = b.n ∧ a.o = b.o ∧ a.text = b.text ∧ True) := by cases a; cases b; simp
  rw [show decide (a = b) = decide (a.kind = b.kind ∧ a.doc = b.doc ∧ a.client = b.client ∧ a.seq = b.seq ∧ a.n = b.n ∧ a.o = b.o ∧ a.text = b.text ∧ True) from decide_eq_decide.2 hq]
  try simp (disch := first | assumption | omega | rfl) only [Option.bind_some, eq_IntS, eq_PartS]
  exact eqstep (eqstep (eqstep (eqstep (eqstep (eqstep (eqstep (rfl)))))))

theorem eq_Answer (a b : DAnswer) (h : smDAnswer a) : x_laws_eqAnswer a b = some (decide (a = b)) := by
  unfold x_laws_eqAnswer
  obtain ⟨h0, h1, h2, h3⟩ := id h
  have hq : (a = b) ↔ (a.code = b.code ∧ a.rev = b.rev ∧ a.text = b.text ∧ a.list = b.list ∧ True) := by cases a; cases b; simp
  rw [show decide (a = b) = decide (a.code = b.code ∧ a.rev = b.rev ∧ a.text = b.text ∧ a.list = b.list ∧ True) from decide_eq_decide.2 hq]
  try simp (disch := first | assumption | omega | rfl) only [Option.bind_some, eq_IntS, eq_EntryS]
  exact eqstep (eqstep (eqstep (eqstep (rfl))))

theorem eq_Task (a b : DTask) (h : smDTask a) : x_laws_eqTask a b = some (decide (a = b)) := by
  unfold x_laws_eqTask
  obtain ⟨h0, h1, h2, h3, h4, h5⟩ := id h
  obtain ⟨h00, h01, h02, h03, h04, h05, h06⟩ := id h0
  obtain ⟨h50, h51, h52, h53⟩ := id h5
  have hq : (a = b) ↔ (a.c = b.c ∧ a.pc = b.pc ∧ a.inv = b.inv ∧ a.lin = b.lin ∧ a.res = b.res ∧ a.a = b.a ∧ True) := by cases a; cases b; simp
  rw [show decide (a = b) = decide (a.c = b.c ∧ a.pc = b.pc ∧ a.inv = b.inv ∧ a.lin = b.lin ∧ a.res = b.res ∧ a.a = b.a ∧ True) from decide_eq_decide.2 hq]
  try simp (disch := first | assumption | omega | rfl) only [Option.bind_some, eq_Call, eq_Answer]
  exact eqstep (eqstep (eqstep (eqstep (eqstep (eqstep (rfl))))))

theorem eq_TaskS (a b : List DTask) (h : (smL smDTask) a) : x_laws_eqTaskS a b = some (decide (a = b)) := by
  unfold x_laws_eqTaskS
  have hl := h.1
  by_cases hab : (a.length : Int) = (b.length : Int)
  · rw [cd_n, cd_t hab, eqLoop a b (x_laws_eqTaskS_f0 a b) (by omega) (fun i hi hi2 => by
      have hm := h.2 _ (el_mem hi)
      simp (disch := first | assumption | omega | rfl) only [x_laws_eqTaskS_f0, x_laws_eqTaskS_b0, cd_n, cd_t, xg_I, xg_of, Int.toNat_natCast, Option.bind_some, eq_Task]) (by simp (disch := first | assumption | omega | rfl) only [x_laws_eqTaskS_f0, x_laws_eqTaskS_b0, cd_n, cd_f, xg_I, Int.toNat_natCast])]
    by_cases hq : a = b
    · rw [decide_eq_true hq]; rfl
    · rw [decide_eq_false hq]; rfl
  · have hq : a ≠ b := fun e => hab (by rw [e])
    rw [cd_n, cd_f hab, decide_eq_false hq]

theorem eq_World (a b : DWorld) (h : smDWorld a) : x_laws_eqWorld a b = some (decide (a = b)) := by
  unfold x_laws_eqWorld
  obtain ⟨h0, h1, h2, h3, h4⟩ := id h
  obtain ⟨h00, h01, h02, h03⟩ := id h0
  have hq : (a = b) ↔ (a.h = b.h ∧ a.locks = b.locks ∧ a.queues = b.queues ∧ a.tasks = b.tasks ∧ a.step = b.step ∧ True) := by cases a; cases b; simp
  rw [show decide (a = b) = decide (a.h = b.h ∧ a.locks = b.locks ∧ a.queues = b.queues ∧ a.tasks = b.tasks ∧ a.step = b.step ∧ True) from decide_eq_decide.2 hq]
  try simp (disch := first | assumption | omega | rfl) only [Option.bind_some, eq_IntS, eq_Hub, eq_QueueS, eq_TaskS]
  exact eqstep (eqstep (eqstep (eqstep (eqstep (rfl)))))

theorem sz_IntS (a : List Int) (y : Int) (h : (wfL wfI) a) (h0 : 0 ≤ y) (h1 : y ≤ 4611686018427387904) : x_laws_szIntS a y = some (if ((lenL szI) a : Int) ≤ y then y - (lenL szI) a else -1) := by
  unfold x_laws_szIntS
  have hl := h.1
  have hz : (lenL szI) a = a.length := lenL_z (fun _ => rfl) _
  rw [hz]
  simp (disch := first | assumption | omega | rfl) only [xg_I]
  by_cases hc : y - (a.length : Int) < 0
  · rw [cd_t hc, if_neg (by omega)]
  · rw [cd_f hc, if_pos (by omega)]

theorem sz_Part (a : DPart) (y : Int) (h : wfDPart a) (h0 : 0 ≤ y) (h1 : y ≤ 4611686018427387904) : x_laws_szPart a y = some (if (szDPart a : Int) ≤ y then y - szDPart a else -1) := by
  unfold x_laws_szPart
  obtain ⟨h0, h1, h2⟩ := id h
  unfold szDPart
  by_cases hz0 : ((lenL szI) a.signs : Int) ≤ y
  case neg =>
    rw [if_neg (by omega)]
    simp (disch := first | assumption | omega | rfl) only [cd_t, Option.bind_some, sz_IntS, if_neg]
  rw [if_pos (by omega)]
  simp (disch := first | assumption | omega | rfl) only [cd_f, Option.bind_some, sz_IntS, if_pos]
  try rfl

theorem sz_PartS (a : List DPart) (y : Int) (h : (wfL wfDPart) a) (h0 : 0 ≤ y) (h1 : y ≤ 4611686018427387904) : x_laws_szPartS a y = some (if ((lenL szDPart) a : Int) ≤ y then y - (lenL szDPart) a else -1) := by
  unfold x_laws_szPartS
  have hl := h.1
  simp (disch := first | assumption | omega | rfl) only [xg_I]
  by_cases hc : y - (a.length : Int) < 0
  · rw [cd_t hc, lenL_eq, if_neg (by omega)]
  · rw [cd_f hc, szLoop szDPart a (x_laws_szPartS_f0 a) (fun i y hi hy hy2 => by
      have hm := h.2 _ (el_mem hi)
      simp (disch := first | assumption | omega | rfl) only [x_laws_szPartS_f0, x_laws_szPartS_b0, cd_t, xg_I, xg_of, Int.toNat_natCast, Option.bind_some, sz_Part]
      by_cases hz : (szDPart (el a i) : Int) ≤ y
      · rw [if_pos hz, if_pos hz, cd_f (by omega)]
      · rw [if_neg hz, if_neg hz, cd_t (by omega)]
      ) (fun y => by simp (disch := first | assumption | omega | rfl) only [x_laws_szPartS_f0, x_laws_szPartS_b0, cd_f, xg_I, Int.toNat_natCast]) _ (by omega) (by omega)]
    rw [lenL_eq]
    by_cases hz : (sumL szDPart a : Int) ≤ y - a.length
    · rw [if_pos hz, if_pos (by omega)]; simp only [Option.bind_some, Sum.elim_inl, Option.some.injEq]; omega
    · rw [if_neg hz, if_neg (by omega)]; rfl

theorem sz_Entry (a : DEntry) (y : Int) (h : wfDEntry a) (h0 : 0 ≤ y) (h1 : y ≤ 4611686018427387904) : x_laws_szEntry a y = some (if (szDEntry a : Int) ≤ y then y - szDEntry a else -1) := by
  unfold x_laws_szEntry
  obtain ⟨h0, h1, h2⟩ := id h
  unfold szDEntry
  by_cases hz0 : ((lenL szDPart) a.o : Int) ≤ y
  case neg =>
    rw [if_neg (by omega)]
    simp (disch := first | assumption | omega | rfl) only [cd_t, Option.bind_some, sz_PartS, if_neg]
  rw [if_pos (by omega)]
  simp (disch := first | assumption | omega | rfl) only [cd_f, Option.bind_some, sz_PartS, if_pos]
  try rfl

theorem sz_EntryS (a : List DEntry) (y : Int) (h : (wfL wfDEntry) a) (h0 : 0 ≤ y) (h1 : y ≤ 4611686018427387904) : x_laws_szEntryS a y = some (if ((lenL szDEntry) a : Int) ≤ y then y - (lenL szDEntry) a else -1) := by
  unfold x_laws_szEntryS
  have hl := h.1
  simp (disch := first | assumption | omega | rfl) only [xg_I]
  by_cases hc : y - (a.length : Int) < 0
  · rw [cd_t hc, lenL_eq, if_neg (by omega)]
  · rw [cd_f hc, szLoop szDEntry a (x_laws_szEntryS_f0 a) (fun i y hi hy hy2 => by
      have hm := h.2 _ (el_mem hi)
      simp (disch := first | assumption | omega | rfl) only [x_laws_szEntryS_f0, x_laws_szEntryS_b0, cd_t, xg_I, xg_of, Int.toNat_natCast, Option.bind_some, sz_Entry]
      by_cases hz : (szDEntry (el a i) : Int) ≤ y
      · rw [if_pos hz, if_pos hz, cd_f (by omega)]
      · rw [if_neg hz, if_neg hz, cd_t (by omega)]
      ) (fun y => by simp (disch := first | assumption | omega | rfl) only [x_laws_szEntryS_f0, x_laws_szEntryS_b0, cd_f, xg_I, Int.toNat_natCast]) _ (by omega) (by omega)]
    rw [lenL_eq]
    by_cases hz : (sumL szDEntry a : Int) ≤ y - a.length
    · rw [if_pos hz, if_pos (by omega)]; simp only [Option.bind_some, Sum.elim_inl, Option.some.injEq]; omega
    · rw [if_neg hz, if_neg (by omega)]; rfl

theorem sz_SeenS (a : List DSeen) (y : Int) (h : (wfL wfDSeen) a) (h0 : 0 ≤ y) (h1 : y ≤ 4611686018427387904) : x_laws_szSeenS a y = some (if ((lenL szDSeen) a : Int) ≤ y then y - (lenL szDSeen) a else -1) := by
  unfold x_laws_szSeenS
  have hl := h.1
  have hz : (lenL szDSeen) a = a.length := lenL_z (fun _ => rfl) _
  rw [hz]
  simp (disch := first | assumption | omega | rfl) only [xg_I]
  by_cases hc : y - (a.length : Int) < 0
  · rw [cd_t hc, if_neg (by omega)]
  · rw [cd_f hc, if_pos (by omega)]

theorem sz_Doc (a : DDoc) (y : Int) (h : wfDDoc a) (h0 : 0 ≤ y) (h1 : y ≤ 4611686018427387904) : x_laws_szDoc a y = some (if (szDDoc a : Int) ≤ y then y - szDDoc a else -1) := by
  unfold x_laws_szDoc
  obtain ⟨h0, h1, h2, h3, h4⟩ := id h
  unfold wfT at h0
  have hZ : szDDoc a = a.name.size + (lenL szI) a.text + (lenL szDEntry) a.list + (lenL szDSeen) a.seen := rfl
  by_cases hz0 : (a.name.size : Int) ≤ y
  case neg =>
    rw [if_neg (by omega)]
    simp (disch := first | assumption | omega | rfl) only [cd_t, xg_I]
  by_cases hz1 : ((lenL szI) a.text : Int) ≤ y - (a.name.size : Int)
  case neg =>
    rw [if_neg (by omega)]
    simp (disch := first | assumption | omega | rfl) only [cd_t, cd_f, xg_I, Option.bind_some, sz_IntS, if_neg]
  by_cases hz2 : ((lenL szDEntry) a.list : Int) ≤ y - (a.name.size : Int) - ((lenL szI) a.text : Int)
  case neg =>
    rw [if_neg (by omega)]
    simp (disch := first | assumption | omega | rfl) only [cd_t, cd_f, xg_I, Option.bind_some, sz_IntS, sz_EntryS, if_pos, if_neg]
  by_cases hz3 : ((lenL szDSeen) a.seen : Int) ≤ y - (a.name.size : Int) - ((lenL szI) a.text : Int) - ((lenL szDEntry) a.list : Int)
  case neg =>
    rw [if_neg (by omega)]
    simp (disch := first | assumption | omega | rfl) only [cd_t, cd_f, xg_I, Option.bind_some, sz_IntS, sz_EntryS, sz_SeenS, if_pos, if_neg]
  rw [if_pos (by omega)]
  simp (disch := first | assumption | omega | rfl) only [cd_f, xg_I, Option.bind_some, sz_IntS, sz_EntryS, sz_SeenS, if_pos]
  simp only [Option.some.injEq]; omega

theorem sz_DocS (a : List DDoc) (y : Int) (h : (wfL wfDDoc) a) (h0 : 0 ≤ y) (h1 : y ≤ 4611686018427387904) : x_laws_szDocS a y = some (if ((lenL szDDoc) a : Int) ≤ y then y - (lenL szDDoc) a else -1) := by
  unfold x_laws_szDocS
  have hl := h.1
  simp (disch := first | assumption | omega | rfl) only [xg_I]
  by_cases hc : y - (a.length : Int) < 0
  · rw [cd_t hc, lenL_eq, if_neg (by omega)]
  · rw [cd_f hc, szLoop szDDoc a (x_laws_szDocS_f0 a) (fun i y hi hy hy2 => by
      have hm := h.2 _ (el_mem hi)
      simp (disch := first | assumption | omega | rfl) only [x_laws_szDocS_f0, x_laws_szDocS_b0, cd_t, xg_I, xg_of, Int.toNat_natCast, Option.bind_some, sz_Doc]
      by_cases hz : (szDDoc (el a i) : Int) ≤ y
      · rw [if_pos hz, if_pos hz, cd_f (by omega)]
      · rw [if_neg hz, if_neg hz, cd_t (by omega)]
      ) (fun y => by simp (disch := first | assumption | omega | rfl) only [x_laws_szDocS_f0, x_laws_szDocS_b0, cd_f, xg_I, Int.toNat_natCast]) _ (by omega) (by omega)]
    rw [lenL_eq]
    by_cases hz : (sumL szDDoc a : Int) ≤ y - a.length
    · rw [if_pos hz, if_pos (by omega)]; simp only [Option.bind_some, Sum.elim_inl, Option.some.injEq]; omega
    · rw [if_neg hz, if_neg (by omega)]; rfl

theorem sz_Ring (a : DRing) (y : Int) (h : wfDRing a) (h0 : 0 ≤ y) (h1 : y ≤ 4611686018427387904) : x_laws_szRing a y = some (if (szDRing a : Int) ≤ y then y - szDRing a else -1) := by
  unfold x_laws_szRing
  obtain ⟨h0, h1, h2, h3⟩ := id h
  unfold szDRing
  by_cases hz0 : ((lenL szDEntry) a.list : Int) ≤ y
  case neg =>
    rw [if_neg (by omega)]
    simp (disch := first | assumption | omega | rfl) only [cd_t, Option.bind_some, sz_EntryS, if_neg]
  rw [if_pos (by omega)]
  simp (disch := first | assumption | omega | rfl) only [cd_f, Option.bind_some, sz_EntryS, if_pos]
  try rfl

theorem sz_Sub (a : DSub) (y : Int) (h : wfDSub a) (h0 : 0 ≤ y) (h1 : y ≤ 4611686018427387904) : x_laws_szSub a y = some (if (szDSub a : Int) ≤ y then y - szDSub a else -1) := by
  unfold x_laws_szSub
  obtain ⟨h0, h1, h2⟩ := id h
  obtain ⟨h20, h21, h22, h23⟩ := id h2
  unfold wfT at h1
  have hZ : szDSub a = a.doc.size + szDRing a.r := rfl
  by_cases hz0 : (a.doc.size : Int) ≤ y
  case neg =>
    rw [if_neg (by omega)]
    simp (disch := first | assumption | omega | rfl) only [cd_t, xg_I]
  by_cases hz1 : (szDRing a.r : Int) ≤ y - (a.doc.size : Int)
  case neg =>
    rw [if_neg (by omega)]
    simp (disch := first | assumption | omega | rfl) only [cd_t, cd_f, xg_I, Option.bind_some, sz_Ring, if_neg]
  rw [if_pos (by omega)]
  simp (disch := first | assumption | omega | rfl) only [cd_f, xg_I, Option.bind_some, sz_Ring, if_pos]
  simp only [Option.some.injEq]; omega

theorem sz_SubS (a : List DSub) (y : Int) (h : (wfL wfDSub) a) (h0 : 0 ≤ y) (h1 : y ≤ 4611686018427387904) : x_laws_szSubS a y = some (if ((lenL szDSub) a : Int) ≤ y then y - (lenL szDSub) a else -1) := by
  unfold x_laws_szSubS
  have hl := h.1
  simp (disch := first | assumption | omega | rfl) only [xg_I]
  by_cases hc : y - (a.length : Int) < 0
  · rw [cd_t hc, lenL_eq, if_neg (by omega)]
  · rw [cd_f hc, szLoop szDSub a (x_laws_szSubS_f0 a) (fun i y hi hy hy2 => by
      have hm := h.2 _ (el_mem hi)
      simp (disch := first | assumption | omega | rfl) only [x_laws_szSubS_f0, x_laws_szSubS_b0, cd_t, xg_I, xg_of, Int.toNat_natCast, Option.bind_some, sz_Sub]
      by_cases hz : (szDSub (el a i) : Int) ≤ y
      · rw [if_pos hz, if_pos hz, cd_f (by omega)]
      · rw [if_neg hz, if_neg hz, cd_t (by omega)]
      ) (fun y => by simp (disch := first | assumption | omega | rfl) only [x_laws_szSubS_f0, x_laws_szSubS_b0, cd_f, xg_I, Int.toNat_natCast]) _ (by omega) (by omega)]
    rw [lenL_eq]
    by_cases hz : (sumL szDSub a : Int) ≤ y - a.length
    · rw [if_pos hz, if_pos (by omega)]; simp only [Option.bind_some, Sum.elim_inl, Option.some.injEq]; omega
    · rw [if_neg hz, if_neg (by omega)]; rfl

theorem sz_Hub (a : DHub) (y : Int) (h : wfDHub a) (h0 : 0 ≤ y) (h1 : y ≤ 4611686018427387904) : x_laws_szHub a y = some (if (szDHub a : Int) ≤ y then y - szDHub a else -1) := by
  unfold x_laws_szHub
  obtain ⟨h0, h1, h2, h3⟩ := id h
  unfold szDHub
  by_cases hz0 : ((lenL szDDoc) a.docs : Int) ≤ y
  case neg =>
    rw [if_neg (by omega)]
    simp (disch := first | assumption | omega | rfl) only [cd_t, Option.bind_some, sz_DocS, if_neg]
  by_cases hz1 : ((lenL szDSub) a.subs : Int) ≤ y - ((lenL szDDoc) a.docs : Int)
  case neg =>
    rw [if_neg (by omega)]
    simp (disch := first | assumption | omega | rfl) only [cd_t, cd_f, Option.bind_some, sz_DocS, sz_SubS, if_pos, if_neg]
  rw [if_pos (by omega)]
  simp (disch := first | assumption | omega | rfl) only [cd_f, Option.bind_some, sz_DocS, sz_SubS, if_pos]
  simp only [Option.some.injEq]; omega

theorem sz_Queue (a : DQueue) (y : Int) (h : wfDQueue a) (h0 : 0 ≤ y) (h1 : y ≤ 4611686018427387904) : x_laws_szQueue a y = some (if (szDQueue a : Int) ≤ y then y - szDQueue a else -1) := by
  unfold x_laws_szQueue
  obtain ⟨h0, h1⟩ := id h
  unfold wfT at h0
  have hZ : szDQueue a = a.doc.size + (lenL szI) a.list := rfl
  by_cases hz0 : (a.doc.size : Int) ≤ y
  case neg =>
    rw [if_neg (by omega)]
    simp (disch := first | assumption | omega | rfl) only [cd_t, xg_I]
  by_cases hz1 : ((lenL szI) a.list : Int) ≤ y - (a.doc.size : Int)
  case neg =>
    rw [if_neg (by omega)]
    simp (disch := first | assumption | omega | rfl) only [cd_t, cd_f, xg_I, Option.bind_some, sz_IntS, if_neg]
  rw [if_pos (by omega)]
  simp (disch := first | assumption | omega | rfl) only [cd_f, xg_I, Option.bind_some, sz_IntS, if_pos]
  simp only [Option.some.injEq]; omega

theorem sz_QueueS (a : List DQueue) (y : Int) (h : (wfL wfDQueue) a) (h0 : 0 ≤ y) (h1 : y ≤ 4611686018427387904) : x_laws_szQueueS a y = some (if ((lenL szDQueue) a : Int) ≤ y then y - (lenL szDQueue) a else -1) := by
  unfold x_laws_szQueueS
  have hl := h.1
  simp (disch := first | assumption | omega | rfl) only [xg_I]
  by_cases hc : y - (a.length : Int) < 0
  · rw [cd_t hc, lenL_eq, if_neg (by omega)]
  · rw [cd_f hc, szLoop szDQueue a (x_laws_szQueueS_f0 a) (fun i y hi hy hy2 => by
      have hm := h.2 _ (el_mem hi)
      simp (disch := first | assumption | omega | rfl) only [x_laws_szQueueS_f0, x_laws_szQueueS_b0, cd_t, xg_I, xg_of, Int.toNat_natCast, Option.bind_some, sz_Queue]
      by_cases hz : (szDQueue (el a i) : Int) ≤ y
      · rw [if_pos hz, if_pos hz, cd_f (by omega)]
      · rw [if_neg hz, if_neg hz, cd_t (by omega)]
      ) (fun y => by simp (disch := first | assumption | omega | rfl) only [x_laws_szQueueS_f0, x_laws_szQueueS_b0, cd_f, xg_I, Int.toNat_natCast]) _ (by omega) (by omega)]
    rw [lenL_eq]
    by_cases hz : (sumL szDQueue a : Int) ≤ y - a.length
    · rw [if_pos hz, if_pos (by omega)]; simp only [Option.bind_some, Sum.elim_inl, Option.some.injEq]; omega
    · rw [if_neg hz, if_neg (by omega)]; rfl

theorem sz_Call (a : DCall) (y : Int) (h : wfDCall a) (h0 : 0 ≤ y) (h1 : y ≤ 4611686018427387904) : x_laws_szCall a y = some (if (szDCall a : Int) ≤ y then y - szDCall a else -1) := by
  unfold x_laws_szCall
  obtain ⟨h0, h1, h2, h3, h4, h5, h6⟩ := id h
  unfold wfT at h1
  have hZ : szDCall a = a.doc.size + (lenL szDPart) a.o + (lenL szI) a.text := rfl
  by_cases hz0 : (a.doc.size : Int) ≤ y
  case neg =>
    rw [if_neg (by omega)]
    simp (disch := first | assumption | omega | rfl) only [cd_t, xg_I]
  by_cases hz1 : ((lenL szDPart) a.o : Int) ≤ y - (a.doc.size : Int)
  case neg =>
    rw [if_neg (by omega)]
    simp (disch := first | assumption | omega | rfl) only [cd_t, cd_f, xg_I, Option.bind_some, sz_PartS, if_neg]
  by_cases hz2 : ((lenL szI) a.text : Int) ≤ y - (a.doc.size : Int) - ((lenL szDPart) a.o : Int)
  case neg =>
    rw [if_neg (by omega)]
    simp (disch := first | assumption | omega | rfl) only [cd_t, cd_f, xg_I, Option.bind_some, sz_IntS, sz_PartS, if_pos, if_neg]
  rw [if_pos (by omega)]
  simp (disch := first | assumption | omega | rfl) only [cd_f, xg_I, Option.bind_some, sz_IntS, sz_PartS, if_pos]
  simp only [Option.some.injEq]; omega

theorem sz_Answer (a : DAnswer) (y : Int) (h : wfDAnswer a) (h0 : 0 ≤ y) (h1 : y ≤ 4611686018427387904) : x_laws_szAnswer a y = some (if (szDAnswer a : Int) ≤ y then y - szDAnswer a else -1) := by
  unfold x_laws_szAnswer
  obtain ⟨h0, h1, h2, h3⟩ := id h
  unfold szDAnswer
  by_cases hz0 : ((lenL szI) a.text : Int) ≤ y
  case neg =>
    rw [if_neg (by omega)]
    simp (disch := first | assumption | omega | rfl) only [cd_t, Option.bind_some, sz_IntS, if_neg]
  by_cases hz1 : ((lenL szDEntry) a.list : Int) ≤ y - ((lenL szI) a.text : Int)
  case neg =>
    rw [if_neg (by omega)]
    simp (disch := first | assumption | omega | rfl) only [cd_t, cd_f, Option.bind_some, sz_IntS, sz_EntryS, if_pos, if_neg]
  rw [if_pos (by omega)]
  simp (disch := first | assumption | omega | rfl) only [cd_f, Option.bind_some, sz_IntS, sz_EntryS, if_pos]
  simp only [Option.some.injEq]; omega

theorem sz_Task (a : DTask) (y : Int) (h : wfDTask a) (h0 : 0 ≤ y) (h1 : y ≤ 4611686018427387904) : x_laws_szTask a y = some (if (szDTask a : Int) ≤ y then y - szDTask a else -1) := by
  unfold x_laws_szTask
  obtain ⟨h0, h1, h2, h3, h4, h5⟩ := id h
  obtain ⟨h00, h01, h02, h03, h04, h05, h06⟩ := id h0
  obtain ⟨h50, h51, h52, h53⟩ := id h5
  unfold szDTask
  by_cases hz0 : (szDCall a.c : Int) ≤ y
  case neg =>
    rw [if_neg (by omega)]
    simp (disch := first | assumption | omega | rfl) only [cd_t, Option.bind_some, sz_Call, if_neg]
  by_cases hz1 : (szDAnswer a.a : Int) ≤ y - (szDCall a.c : Int)
  case neg =>
    rw [if_neg (by omega)]
    simp (disch := first | assumption | omega | rfl) only [cd_t, cd_f, Option.bind_some, sz_Call, sz_Answer, if_pos, if_neg]
  rw [if_pos (by omega)]
  simp (disch := first | assumption | omega | rfl) only [cd_f, Option.bind_some, sz_Call, sz_Answer, if_pos]
  simp only [Option.some.injEq]; omega

theorem sz_TaskS (a : List DTask) (y : Int) (h : (wfL wfDTask) a) (h0 : 0 ≤ y) (h1 : y ≤ 4611686018427387904) : x_laws_szTaskS a y = some (if ((lenL szDTask) a : Int) ≤ y then y - (lenL szDTask) a else -1) := by
  unfold x_laws_szTaskS
  have hl := h.1
  simp (disch := first | assumption | omega | rfl) only [xg_I]
  by_cases hc : y - (a.length : Int) < 0
  · rw [cd_t hc, lenL_eq, if_neg (by omega)]
  · rw [cd_f hc, szLoop szDTask a (x_laws_szTaskS_f0 a) (fun i y hi hy hy2 => by
      have hm := h.2 _ (el_mem hi)
      simp (disch := first | assumption | omega | rfl) only [x_laws_szTaskS_f0, x_laws_szTaskS_b0, cd_t, xg_I, xg_of, Int.toNat_natCast, Option.bind_some, sz_Task]
      by_cases hz : (szDTask (el a i) : Int) ≤ y
      · rw [if_pos hz, if_pos hz, cd_f (by omega)]
      · rw [if_neg hz, if_neg hz, cd_t (by omega)]
      ) (fun y => by simp (disch := first | assumption | omega | rfl) only [x_laws_szTaskS_f0, x_laws_szTaskS_b0, cd_f, xg_I, Int.toNat_natCast]) _ (by omega) (by omega)]
    rw [lenL_eq]
    by_cases hz : (sumL szDTask a : Int) ≤ y - a.length
    · rw [if_pos hz, if_pos (by omega)]; simp only [Option.bind_some, Sum.elim_inl, Option.some.injEq]; omega
    · rw [if_neg hz, if_neg (by omega)]; rfl

theorem sz_World (a : DWorld) (y : Int) (h : wfDWorld a) (h0 : 0 ≤ y) (h1 : y ≤ 4611686018427387904) : x_laws_szWorld a y = some (if (szDWorld a : Int) ≤ y then y - szDWorld a else -1) := by
  unfold x_laws_szWorld
  obtain ⟨h0, h1, h2, h3, h4⟩ := id h
  obtain ⟨h00, h01, h02, h03⟩ := id h0
  unfold szDWorld
  by_cases hz0 : (szDHub a.h : Int) ≤ y
  case neg =>
    rw [if_neg (by omega)]
    simp (disch := first | assumption | omega | rfl) only [cd_t, Option.bind_some, sz_Hub, if_neg]
  by_cases hz1 : ((lenL szI) a.locks : Int) ≤ y - (szDHub a.h : Int)
  case neg =>
    rw [if_neg (by omega)]
    simp (disch := first | assumption | omega | rfl) only [cd_t, cd_f, Option.bind_some, sz_IntS, sz_Hub, if_pos, if_neg]
  by_cases hz2 : ((lenL szDQueue) a.queues : Int) ≤ y - (szDHub a.h : Int) - ((lenL szI) a.locks : Int)
  case neg =>
    rw [if_neg (by omega)]
    simp (disch := first | assumption | omega | rfl) only [cd_t, cd_f, Option.bind_some, sz_IntS, sz_Hub, sz_QueueS, if_pos, if_neg]
  by_cases hz3 : ((lenL szDTask) a.tasks : Int) ≤ y - (szDHub a.h : Int) - ((lenL szI) a.locks : Int) - ((lenL szDQueue) a.queues : Int)
  case neg =>
    rw [if_neg (by omega)]
    simp (disch := first | assumption | omega | rfl) only [cd_t, cd_f, Option.bind_some, sz_IntS, sz_Hub, sz_QueueS, sz_TaskS, if_pos, if_neg]
  rw [if_pos (by omega)]
  simp (disch := first | assumption | omega | rfl) only [cd_f, Option.bind_some, sz_IntS, sz_Hub, sz_QueueS, sz_TaskS, if_pos]
  simp only [Option.some.injEq]; omega

theorem eq_StringS (a b : List ByteArray) (h : (smL smT) a) : x_laws_eqStringS a b = some (decide (a = b)) := by
  unfold x_laws_eqStringS
  have hl := h.1
  by_cases hab : (a.length : Int) = (b.length : Int)
  · rw [cd_n, cd_t hab, eqLoop a b (x_laws_eqStringS_f0 a b) (by omega) (fun i hi hi2 => by
      have hm := h.2 _ (el_mem hi)
      simp (disch := first | assumption | omega | rfl) only [x_laws_eqStringS_f0, x_laws_eqStringS_b0, cd_n, cd_t, xg_I, xg_of, Int.toNat_natCast]) (by simp (disch := first | assumption | omega | rfl) only [x_laws_eqStringS_f0, x_laws_eqStringS_b0, cd_n, cd_f, xg_I, Int.toNat_natCast])]
    by_cases hq : a = b
    · rw [decide_eq_true hq]; rfl
    · rw [decide_eq_false hq]; rfl
  · have hq : a ≠ b := fun e => hab (by rw [e])
    rw [cd_n, cd_f hab, decide_eq_false hq]

theorem mark_IntS (a : List Int) (k : Int) (h : (smL smI) a) (h0 : 0 ≤ k) (hk : k + ((sumL cnI) a : Int) ≤ 2305843009213693952) : x_laws_markIntS a k = some (k + ((sumL cnI) a : Int), (mkL cnI mkI) a k) := by
  unfold x_laws_markIntS
  have hl := h.1
  rw [markLoop smI cnI mkI (x_laws_markIntS_f0) (fun k i l hi hl h0 hp hk => by
    try simp only [cnI] at hk
    simp (disch := first | assumption | omega | rfl) only [x_laws_markIntS_f0, x_laws_markIntS_b0, cd_t, xg_I, xg_of, Int.toNat_natCast]
    try rfl
    ) (fun k l => by simp (disch := first | assumption | omega | rfl) only [x_laws_markIntS_f0, x_laws_markIntS_b0, cd_f, Int.toNat_natCast]) a k (fun x hx => h.2 x hx) (by omega) h0 hk]
  rfl

theorem mark_PartS (a : List DPart) (k : Int) (h : (smL smDPart) a) (h0 : 0 ≤ k) (hk : k + ((sumL cnDPart) a : Int) ≤ 2305843009213693952) : x_laws_markPartS a k = some (k + ((sumL cnDPart) a : Int), (mkL cnDPart mkDPart) a k) := by
  unfold x_laws_markPartS
  have hl := h.1
  rw [markLoop smDPart cnDPart mkDPart (x_laws_markPartS_f0) (fun k i l hi hl h0 hp hk => by
    obtain ⟨hp0, hp1, hp2⟩ := id hp
    unfold cnDPart at hk
    try simp only [cnI] at hk
    simp (disch := first | assumption | omega | rfl) only [x_laws_markPartS_f0, x_laws_markPartS_b0, cd_t, xg_I, xg_of, Int.toNat_natCast, List.length_set, el_set, List.set_set, Option.bind_some, mark_IntS]
    simp only [cnDPart, mkDPart, mkI, cnI, Int.natCast_add, Int.natCast_one, Int.add_assoc]
    try rfl
    ) (fun k l => by simp (disch := first | assumption | omega | rfl) only [x_laws_markPartS_f0, x_laws_markPartS_b0, cd_f, Int.toNat_natCast, List.length_set, List.set_set]) a k (fun x hx => h.2 x hx) (by omega) h0 hk]
  rfl

theorem mark_EntryS (a : List DEntry) (k : Int) (h : (smL smDEntry) a) (h0 : 0 ≤ k) (hk : k + ((sumL cnDEntry) a : Int) ≤ 2305843009213693952) : x_laws_markEntryS a k = some (k + ((sumL cnDEntry) a : Int), (mkL cnDEntry mkDEntry) a k) := by
  unfold x_laws_markEntryS
  have hl := h.1
  rw [markLoop smDEntry cnDEntry mkDEntry (x_laws_markEntryS_f0) (fun k i l hi hl h0 hp hk => by
    obtain ⟨hp0, hp1, hp2⟩ := id hp
    unfold cnDEntry at hk
    try simp only [cnI] at hk
    simp (disch := first | assumption | omega | rfl) only [x_laws_markEntryS_f0, x_laws_markEntryS_b0, cd_t, xg_I, xg_of, Int.toNat_natCast, List.length_set, el_set, List.set_set, Option.bind_some, mark_PartS]
    simp only [cnDEntry, mkDEntry, mkI, cnI, Int.natCast_add, Int.natCast_one, Int.add_assoc]
    try rfl
    ) (fun k l => by simp (disch := first | assumption | omega | rfl) only [x_laws_markEntryS_f0, x_laws_markEntryS_b0, cd_f, Int.toNat_natCast, List.length_set, List.set_set]) a k (fun x hx => h.2 x hx) (by omega) h0 hk]
  rfl

theorem mark_SeenS (a : List DSeen) (k : Int) (h : (smL smDSeen) a) (h0 : 0 ≤ k) (hk : k + ((sumL cnDSeen) a : Int) ≤ 2305843009213693952) : x_laws_markSeenS a k = some (k + ((sumL cnDSeen) a : Int), (mkL cnDSeen mkDSeen) a k) := by
  unfold x_laws_markSeenS
  have hl := h.1
  rw [markLoop smDSeen cnDSeen mkDSeen (x_laws_markSeenS_f0) (fun k i l hi hl h0 hp hk => by
    obtain ⟨hp0, hp1, hp2⟩ := id hp
    unfold cnDSeen at hk
    try simp only [cnI] at hk
    simp (disch := first | assumption | omega | rfl) only [x_laws_markSeenS_f0, x_laws_markSeenS_b0, cd_t, xg_I, xg_of, Int.toNat_natCast, List.length_set, el_set, List.set_set]
    simp only [cnDSeen, mkDSeen, mkI, cnI, Int.natCast_add, Int.natCast_one, Int.add_assoc]
    try rfl
    ) (fun k l => by simp (disch := first | assumption | omega | rfl) only [x_laws_markSeenS_f0, x_laws_markSeenS_b0, cd_f, Int.toNat_natCast, List.length_set, List.set_set]) a k (fun x hx => h.2 x hx) (by omega) h0 hk]
  rfl

theorem mark_DocS (a : List DDoc) (k : Int) (h : (smL smDDoc) a) (h0 : 0 ≤ k) (hk : k + ((sumL cnDDoc) a : Int) ≤ 2305843009213693952) : x_laws_markDocS a k = some (k + ((sumL cnDDoc) a : Int), (mkL cnDDoc mkDDoc) a k) := by
  unfold x_laws_markDocS
  have hl := h.1
  rw [markLoop smDDoc cnDDoc mkDDoc (x_laws_markDocS_f0) (fun k i l hi hl h0 hp hk => by
    obtain ⟨hp0, hp1, hp2, hp3, hp4⟩ := id hp
    unfold cnDDoc at hk
    try simp only [cnI, cnT] at hk
    simp (disch := first | assumption | omega | rfl) only [x_laws_markDocS_f0, x_laws_markDocS_b0, cd_t, xg_I, xg_of, Int.toNat_natCast, Option.bind_some, mk_text]
    refine bset (by omega) fun l1 n1 e1 s1 q1 => ?_
    simp (disch := first | assumption | omega | rfl) only [e1, s1, xg_of]
    refine bset (by omega) fun l2 n2 e2 s2 q2 => ?_
    simp (disch := first | assumption | omega | rfl) only [e2, s2, xg_of, Option.bind_some, mark_IntS]
    refine bset (by omega) fun l3 n3 e3 s3 q3 => ?_
    simp (disch := first | assumption | omega | rfl) only [e3, s3, xg_of, Option.bind_some, mark_EntryS]
    refine bset (by omega) fun l4 n4 e4 s4 q4 => ?_
    simp (disch := first | assumption | omega | rfl) only [e4, s4, xg_of, Option.bind_some, mark_SeenS]
    refine bset (by omega) fun l5 n5 e5 s5 q5 => ?_
    try simp (disch := first | assumption | omega | rfl) only [e5, s5, cd_n, cd_t, cd_f, cd_T, cd_F, xg_and, xg_I, xg_of, Int.toNat_natCast, List.length_set, el_set, List.set_set, Option.bind_some, Sum.elim_inl, Sum.elim_inr, mark_IntS, mark_PartS, mark_EntryS, mark_SeenS, mk_text]
    rw [q5]
    simp only [cnDDoc, mkDDoc, mkI, mkT, cnI, cnT, Int.natCast_add, Int.natCast_one, Int.add_assoc]
    try rfl
    ) (fun k l => by simp (disch := first | assumption | omega | rfl) only [x_laws_markDocS_f0, x_laws_markDocS_b0, cd_f, Int.toNat_natCast]) a k (fun x hx => h.2 x hx) (by omega) h0 hk]
  rfl

theorem mark_SubS (a : List DSub) (k : Int) (h : (smL smDSub) a) (h0 : 0 ≤ k) (hk : k + ((sumL cnDSub) a : Int) ≤ 2305843009213693952) : x_laws_markSubS a k = some (k + ((sumL cnDSub) a : Int), (mkL cnDSub mkDSub) a k) := by
  unfold x_laws_markSubS
  have hl := h.1
  rw [markLoop smDSub cnDSub mkDSub (x_laws_markSubS_f0) (fun k i l hi hl h0 hp hk => by
    obtain ⟨hp0, hp1, hp2⟩ := id hp
    obtain ⟨hp20, hp21, hp22, hp23⟩ := id hp2
    unfold cnDSub cnDRing at hk
    try simp only [cnI, cnB, cnT] at hk
    simp (disch := first | assumption | omega | rfl) only [x_laws_markSubS_f0, x_laws_markSubS_b0, cd_t, xg_I, xg_of, Int.toNat_natCast, Option.bind_some, mk_text]
    refine bset (by omega) fun l1 n1 e1 s1 q1 => ?_
    simp (disch := first | assumption | omega | rfl) only [e1, s1, xg_of]
    refine bset (by omega) fun l2 n2 e2 s2 q2 => ?_
    simp (disch := first | assumption | omega | rfl) only [e2, s2, xg_of]
    refine bset (by omega) fun l3 n3 e3 s3 q3 => ?_
    simp (disch := first | assumption | omega | rfl) only [e3, s3, xg_of]
    refine bset (by omega) fun l4 n4 e4 s4 q4 => ?_
    simp (disch := first | assumption | omega | rfl) only [e4, s4, xg_of]
    refine bset (by omega) fun l5 n5 e5 s5 q5 => ?_
    simp (disch := first | assumption | omega | rfl) only [e5, s5, xg_of, Option.bind_some, mark_EntryS]
    refine bset (by omega) fun l6 n6 e6 s6 q6 => ?_
    try simp (disch := first | assumption | omega | rfl) only [e6, s6, cd_n, cd_t, cd_f, cd_T, cd_F, xg_and, xg_I, xg_of, Int.toNat_natCast, List.length_set, el_set, List.set_set, Option.bind_some, Sum.elim_inl, Sum.elim_inr, mark_IntS, mark_PartS, mark_EntryS, mark_SeenS, mark_DocS, mk_text]
    rw [q6]
    simp only [cnDSub, cnDRing, mkDSub, mkDRing, mkI, mkB, mkT, cnI, cnB, cnT, Int.natCast_add, Int.natCast_one, Int.add_assoc]
    try rfl
    ) (fun k l => by simp (disch := first | assumption | omega | rfl) only [x_laws_markSubS_f0, x_laws_markSubS_b0, cd_f, Int.toNat_natCast]) a k (fun x hx => h.2 x hx) (by omega) h0 hk]
  rfl

theorem mark_Hub (a : DHub) (k : Int) (h : smDHub a) (h0 : 0 ≤ k) (hk : k + (cvDHub a : Int) ≤ 2305843009213693952) : x_laws_markHub a k = some (k + (cvDHub a : Int), mvDHub a k) := by
  unfold x_laws_markHub
  obtain ⟨h0, h1, h2, h3⟩ := id h
  unfold cvDHub at hk
  simp (disch := first | assumption | omega | rfl) only [Option.bind_some, mark_DocS, mark_SubS]
  simp only [cvDHub, mvDHub, Int.natCast_add, Int.add_assoc]
  try rfl

theorem mark_QueueS (a : List DQueue) (k : Int) (h : (smL smDQueue) a) (h0 : 0 ≤ k) (hk : k + ((sumL cnDQueue) a : Int) ≤ 2305843009213693952) : x_laws_markQueueS a k = some (k + ((sumL cnDQueue) a : Int), (mkL cnDQueue mkDQueue) a k) := by
  unfold x_laws_markQueueS
  have hl := h.1
  rw [markLoop smDQueue cnDQueue mkDQueue (x_laws_markQueueS_f0) (fun k i l hi hl h0 hp hk => by
    obtain ⟨hp0, hp1⟩ := id hp
    unfold cnDQueue at hk
    try simp only [cnT] at hk
    simp (disch := first | assumption | omega | rfl) only [x_laws_markQueueS_f0, x_laws_markQueueS_b0, cd_t, xg_I, xg_of, Int.toNat_natCast, List.length_set, el_set, List.set_set, Option.bind_some, mark_IntS, mk_text]
    simp only [cnDQueue, mkDQueue, mkT, cnT, Int.natCast_add, Int.natCast_one, Int.add_assoc]
    try rfl
    ) (fun k l => by simp (disch := first | assumption | omega | rfl) only [x_laws_markQueueS_f0, x_laws_markQueueS_b0, cd_f, Int.toNat_natCast, List.length_set, List.set_set]) a k (fun x hx => h.2 x hx) (by omega) h0 hk]
  rfl

set_option maxHeartbeats 2000000 in
theorem mark_TaskS (a : List DTask) (k : Int) (h : (smL smDTask) a) (h0 : 0 ≤ k) (hk : k + ((sumL cnDTask) a : Int) ≤ 2305843009213693952) : x_laws_markTaskS a k = some (k + ((sumL cnDTask) a : Int), (mkL cnDTask mkDTask) a k) := by
  unfold x_laws_markTaskS
  have hl := h.1
  rw [markLoop smDTask cnDTask mkDTask (x_laws_markTaskS_f0 a) (fun k i l hi hl h0 hp hk => by
    obtain ⟨hp0, hp1, hp2, hp3, hp4, hp5⟩ := id hp
    obtain ⟨hp00, hp01, hp02, hp03, hp04, hp05, hp06⟩ := id hp0
    obtain ⟨hp50, hp51, hp52, hp53⟩ := id hp5
    unfold cnDTask cnDCall cnDAnswer at hk
    try simp only [cnI, cnT] at hk
    simp (disch := first | assumption | omega | rfl) only [x_laws_markTaskS_f0, x_laws_markTaskS_b0, cd_t, xg_I, xg_of, Int.toNat_natCast, Option.bind_some, mk_text]
    refine bset (by omega) fun l1 n1 e1 s1 q1 => ?_
    simp (disch := first | assumption | omega | rfl) only [e1, s1, xg_of]
    refine bset (by omega) fun l2 n2 e2 s2 q2 => ?_
    simp (disch := first | assumption | omega | rfl) only [e2, s2, xg_of]
    refine bset (by omega) fun l3 n3 e3 s3 q3 => ?_
    simp (disch := first | assumption | omega | rfl) only [e3, s3, xg_of]
    refine bset (by omega) fun l4 n4 e4 s4 q4 => ?_
    simp (disch := first | assumption | omega | rfl) only [e4, s4, xg_of]
    refine bset (by omega) fun l5 n5 e5 s5 q5 => ?_
    simp (disch := first | assumption | omega | rfl) only [e5, s5, xg_of, Option.bind_some, mark_PartS]
    refine bset (by omega) fun l6 n6 e6 s6 q6 => ?_
    simp (disch := first | assumption | omega | rfl) only [e6, s6, xg_I, xg_of, Option.bind_some, mark_IntS]
    refine bset (by omega) fun l7 n7 e7 s7 q7 => ?_
    simp (disch := first | assumption | omega | rfl) only [e7, s7, xg_of]
    refine bset (by omega) fun l8 n8 e8 s8 q8 => ?_
    simp (disch := first | assumption | omega | rfl) only [e8, s8, xg_of]
    refine bset (by omega) fun l9 n9 e9 s9 q9 => ?_
    simp (disch := first | assumption | omega | rfl) only [e9, s9, xg_of]
    refine bset (by omega) fun l10 n10 e10 s10 q10 => ?_
    simp (disch := first | assumption | omega | rfl) only [e10, s10, xg_of]
    refine bset (by omega) fun l11 n11 e11 s11 q11 => ?_
    simp (disch := first | assumption | omega | rfl) only [e11, s11, xg_of]
    refine bset (by omega) fun l12 n12 e12 s12 q12 => ?_
    simp (disch := first | assumption | omega | rfl) only [e12, s12, xg_of]
    refine bset (by omega) fun l13 n13 e13 s13 q13 => ?_
    simp (disch := first | assumption | omega | rfl) only [e13, s13, xg_of, Option.bind_some, mark_IntS]
    refine bset (by omega) fun l14 n14 e14 s14 q14 => ?_
    simp (disch := first | assumption | omega | rfl) only [e14, s14, xg_of, Option.bind_some, mark_EntryS]
    refine bset (by omega) fun l15 n15 e15 s15 q15 => ?_
    try simp (disch := first | assumption | omega | rfl) only [e15, s15, cd_n, cd_t, cd_f, cd_T, cd_F, xg_and, xg_I, xg_of, Int.toNat_natCast, List.length_set, el_set, List.set_set, Option.bind_some, Sum.elim_inl, Sum.elim_inr, mark_IntS, mark_PartS, mark_EntryS, mark_SeenS, mark_DocS, mark_SubS, mark_Hub, mark_QueueS, mk_text]
    rw [q15]
    simp only [cnDTask, cnDCall, cnDAnswer, mkDTask, mkDCall, mkDAnswer, mkI, mkT, cnI, cnT, Int.natCast_add, Int.natCast_one, Int.add_assoc]
    try rfl
    ) (fun k l => by simp (disch := first | assumption | omega | rfl) only [x_laws_markTaskS_f0, x_laws_markTaskS_b0, cd_f, Int.toNat_natCast]) a k (fun x hx => h.2 x hx) (by omega) h0 hk]
  rfl

theorem mark_World (a : DWorld) (k : Int) (h : smDWorld a) (h0 : 0 ≤ k) (hk : k + (cvDWorld a : Int) ≤ 2305843009213693952) : x_laws_markWorld a k = some (k + (cvDWorld a : Int), mvDWorld a k) := by
  unfold x_laws_markWorld
  obtain ⟨h0, h1, h2, h3, h4⟩ := id h
  obtain ⟨h00, h01, h02, h03⟩ := id h0
  unfold cvDWorld at hk
  simp (disch := first | assumption | omega | rfl) only [Option.bind_some, mark_IntS, mark_Hub, mark_QueueS, mark_TaskS]
  simp only [cvDWorld, mvDWorld, Int.natCast_add, Int.add_assoc]
  try rfl

theorem mark_StringS (a : List ByteArray) (k : Int) (h : (smL smT) a) (h0 : 0 ≤ k) (hk : k + ((sumL cnT) a : Int) ≤ 2305843009213693952) : x_laws_markStringS a k = some (k + ((sumL cnT) a : Int), (mkL cnT mkT) a k) := by
  unfold x_laws_markStringS
  have hl := h.1
  rw [markLoop smT cnT mkT (x_laws_markStringS_f0) (fun k i l hi hl h0 hp hk => by
    try simp only [cnT] at hk
    simp (disch := first | assumption | omega | rfl) only [x_laws_markStringS_f0, x_laws_markStringS_b0, cd_t, xg_I, xg_of, Int.toNat_natCast, Option.bind_some, mk_text]
    try rfl
    ) (fun k l => by simp (disch := first | assumption | omega | rfl) only [x_laws_markStringS_f0, x_laws_markStringS_b0, cd_f, Int.toNat_natCast]) a k (fun x hx => h.2 x hx) (by omega) h0 hk]
  rfl

theorem held_StringS (a : List ByteArray) (k : Int) (h : (smL smT) a) (h0 : 0 ≤ k) (hk : k + ((sumL cnT) a : Int) ≤ 2305843009213693952) : x_laws_heldStringS ((mkL cnT mkT) a k) k = some (k + ((sumL cnT) a : Int)) := by
  unfold x_laws_heldStringS
  have hl := h.1
  rw [heldLoop smT cnT mkT ((mkL cnT mkT) a k) (x_laws_heldStringS_f0 ((mkL cnT mkT) a k)) (fun k i x hi hl h0 hp hk e => by
    try simp only [cnT] at hk
    simp (disch := first | assumption | omega | rfl) only [x_laws_heldStringS_f0, x_laws_heldStringS_b0, e, mkT, cd_n, cd_t, cd_T, xg_I, xg_of, Int.toNat_natCast, Option.bind_some, mk_text, decide_true]
    try rfl
    ) (fun k => by simp (disch := first | assumption | omega | rfl) only [x_laws_heldStringS_f0, x_laws_heldStringS_b0, cd_n, cd_f, Int.toNat_natCast]) a k rfl (fun x hx => h.2 x hx) (by omega) h0 hk]
  rfl

end Go.Proofs.YtjbonmmmcnpjiaaGreatDoor
