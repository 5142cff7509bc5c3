/- Documents: what they keep, and what is told of them. No condition. -/
import Derived.Test.YtjbonmmmcnpjiaaGreatDoorMe
import Derived.Test.YtjbonmmmcnpjiaaGreatDoorG9
namespace Go.Proofs.YtjbonmmmcnpjiaaGreatDoor

noncomputable def okName (s : ByteArray) : Bool := (x_impl_NameOk s).getD false
theorem i_NameOk (s : ByteArray) (hs : s.size ≤ 9223372036854775807) : x_impl_NameOk s = some (okName s) := by
  have key : ∃ b, x_impl_NameOk s = some b := by
    unfold x_impl_NameOk
    obtain ⟨y, h1, _⟩ := iter_ex (f := x_impl_NameOk_f0 s) (fun i => 0 ≤ i ∧ i ≤ s.size) (fun i => ((s.size : Int) - i).toNat) (fun _ => True) (fun i hP => by
      unfold x_impl_NameOk_f0 x_impl_NameOk_b0
      by_cases hi : i < (s.size : Int)
      · rw [cd_t hi, xg_of ⟨hP.1, hi⟩, xg_of ⟨hP.1, hi⟩, cs_, Option.bind_some]
        cases (bif decide (((sget s i.toNat).toNat : Int) < 97) then true else decide ((122 : Int) < ((sget s i.toNat).toNat : Int))) with
        | true => exact .inr ⟨_, rfl, trivial⟩
        | false => rw [cd_F, xg_I (by omega) (by omega)]; exact .inl ⟨_, rfl, ⟨by omega, by omega⟩, by omega⟩
      · rw [cd_f hi]; exact .inr ⟨_, rfl, trivial⟩) 0 ⟨by omega, by omega⟩
    rw [h1, Option.bind_some]
    cases y with
    | inl u => simp only [Sum.elim_inl]; rw [i_within]; exact ⟨_, rfl⟩
    | inr u => exact ⟨_, rfl⟩
  obtain ⟨b, hb⟩ := key
  unfold okName
  rw [hb]; rfl
theorem s_NameOk (s : ByteArray) (hs : s.size ≤ 9223372036854775807) : x_spec_NameOk s = some (okName s) := by
  have h := i_NameOk s hs
  have hf : x_spec_NameOk_f0 = x_impl_NameOk_f0 := rfl
  unfold x_impl_NameOk at h
  unfold x_spec_NameOk
  rw [hf]
  simp only [s_In]
  simp only [i_within] at h
  exact h
theorem all_appl : ∀ {o : List DPart}, (∀ p ∈ o, p.kind = 2 → p.signs.all okSign = true) → ∀ {t : List Int}, t.all okSign = true → (appl o t).all okSign = true
  | [], _, t, _ => rfl
  | q :: o, h, t, ht => by
    have hd : ∀ k, (t.drop k).all okSign = true := fun k => List.all_eq_true.2 fun x hx => List.all_eq_true.1 ht x (List.mem_of_mem_drop hx)
    have htk : ∀ k, (t.take k).all okSign = true := fun k => List.all_eq_true.2 fun x hx => List.all_eq_true.1 ht x (List.mem_of_mem_take hx)
    have ih : ∀ {t : List Int}, t.all okSign = true → (appl o t).all okSign = true := fun ht => all_appl (fun p hp => h p (by simp [hp])) ht
    unfold appl
    split
    · rw [List.all_append, htk, ih (hd _)]; rfl
    · split
      · rename_i hk; rw [List.all_append, h q (by simp) hk, ih ht]; rfl
      · exact ih (hd _)
theorem okText_appl {o : List DPart} {t : List Int} (h : fits o t = true) : okText (appl o t) = true := by
  obtain ⟨h1, h2, h3⟩ := fits_get h
  have h4 := appl_len (okOp_kinds h1) h3
  have h5 := okOp_to h1
  have h6 := all_appl (okParts_signs (okOp_parts h1)) (okText_signs h2)
  unfold okText
  rw [h6]; simp; omega
def prevLt : Option Int → Int → Bool
  | none, _ => true
  | some p, i => decide (p < i)
def seenL (h : Int) : List DSeen → Option Int → Bool
  | [], _ => true
  | s :: r, p => (((decide (1 ≤ s.client ∧ s.client ≤ 8) && prevLt p s.client) && decide (1 ≤ s.seq ∧ s.seq ≤ 1000000000)) && decide (1 ≤ s.rev ∧ s.rev ≤ h)) && seenL h r (some s.client)
noncomputable def okDoc (d : DDoc) : Bool := (((okName d.name && decide (0 ≤ d.from_ ∧ d.from_ ≤ 999999000)) && okText d.text) && decide (d.list.length ≤ 8)) && ((foldE d.list d.text).isSome && seenL (d.from_ + d.list.length) d.seen none)
theorem seenAt (l : List DSeen) {k : Nat} {x : DSeen} (hl : l.length ≤ 1099511627776) (hk : k < l.length) :
    (bif decide ((0 : Int) < (k : Int)) then (xg (inI ((k : Int) - 1)) <| xg (0 ≤ ((k : Int) - 1) ∧ ((k : Int) - 1) < (l.length : Int)) <| some (decide ((x.client) ≤ ((el l (((k : Int) - 1).toNat)).client)))) else (some false)) = some (!prevLt (if k = 0 then none else some (el l (k - 1)).client) x.client) := by
  cases k with
  | zero => rfl
  | succ k =>
    rw [cd_t (by omega), xg_I (by omega) (by omega), xg_of ⟨by omega, by omega⟩, if_neg (by omega), show (((k + 1 : Nat) : Int) - 1).toNat = k + 1 - 1 by omega, prevLt]
    congr 1
    rw [← decide_not]
    exact decide_eq_decide.2 (by omega)
theorem i_seen_loop (d : DDoc) (hl : d.seen.length ≤ 1099511627776) (hf : 0 ≤ d.from_ ∧ d.from_ ≤ 999999000) (hn : d.list.length ≤ 8) : eachN (x_impl_DocOk_f1 d) (fun (_ : Unit) => (Sum.inl () : Sum Unit Bool)) d.seen.length 0 () = some (bif seenL (d.from_ + d.list.length) d.seen none then Sum.inl () else Sum.inr false) := by
  have h := each_run (F := x_impl_DocOk_f1 d) (e := fun _ => (Sum.inl () : Sum Unit Bool)) d.seen (fun _ _ _ => True) (fun r k _ => bif seenL (d.from_ + d.list.length) r (if k = 0 then none else some (el d.seen (k - 1)).client) then Sum.inl () else Sum.inr false) (fun _ _ => rfl) (fun x r k s hk hx _ => by
    have hh : x_impl_HeadRev d = some (d.from_ + d.list.length) := by unfold x_impl_HeadRev; rw [xg_I (by omega) (by omega)]
    unfold x_impl_DocOk_f1 x_impl_DocOk_b1
    rw [hx]
    simp only [i_within, Option.bind_some, seenAt d.seen (x := x) hl hk, hh, cs_, co_]
    simp only [seenL]
    have e1 : (if k + 1 = 0 then none else some (el d.seen (k + 1 - 1)).client) = some x.client := by rw [if_neg (by omega), Nat.add_sub_cancel, hx]
    rw [e1]
    generalize prevLt (if k = 0 then none else some (el d.seen (k - 1)).client) x.client = q
    generalize seenL (d.from_ + d.list.length) r (some x.client) = z
    generalize decide (1 ≤ x.client ∧ x.client ≤ 8) = b1
    generalize decide (1 ≤ x.seq ∧ x.seq ≤ 1000000000) = b2
    generalize decide (1 ≤ x.rev ∧ x.rev ≤ d.from_ + d.list.length) = b3
    cases b1 <;> cases q <;> cases b2 <;> cases b3 <;> first | exact .inr rfl | exact .inl ⟨(), rfl, trivial, rfl⟩) () trivial
  simpa using h
theorem s_seen_loop (d : DDoc) (hl : d.seen.length ≤ 1099511627776) (hf : 0 ≤ d.from_ ∧ d.from_ ≤ 999999000) (hn : d.list.length ≤ 8) : eachN (x_spec_DocOk_f1 d) (fun (_ : Unit) => (Sum.inl () : Sum Unit Bool)) d.seen.length 0 () = some (bif seenL (d.from_ + d.list.length) d.seen none then Sum.inl () else Sum.inr false) := by
  have h := each_run (F := x_spec_DocOk_f1 d) (e := fun _ => (Sum.inl () : Sum Unit Bool)) d.seen (fun _ _ _ => True) (fun r k _ => bif seenL (d.from_ + d.list.length) r (if k = 0 then none else some (el d.seen (k - 1)).client) then Sum.inl () else Sum.inr false) (fun _ _ => rfl) (fun x r k s hk hx _ => by
    have hh : x_spec_HeadRev d = some (d.from_ + d.list.length) := by unfold x_spec_HeadRev; rw [xg_I (by omega) (by omega)]
    unfold x_spec_DocOk_f1 x_spec_DocOk_b1
    rw [hx]
    simp only [s_In, Option.bind_some, seenAt d.seen (x := x) hl hk, hh, cs_, co_]
    simp only [seenL]
    have e1 : (if k + 1 = 0 then none else some (el d.seen (k + 1 - 1)).client) = some x.client := by rw [if_neg (by omega), Nat.add_sub_cancel, hx]
    rw [e1]
    generalize prevLt (if k = 0 then none else some (el d.seen (k - 1)).client) x.client = q
    generalize seenL (d.from_ + d.list.length) r (some x.client) = z
    generalize decide (1 ≤ x.client ∧ x.client ≤ 8) = b1
    generalize decide (1 ≤ x.seq ∧ x.seq ≤ 1000000000) = b2
    generalize decide (1 ≤ x.rev ∧ x.rev ≤ d.from_ + d.list.length) = b3
    cases b1 <;> cases q <;> cases b2 <;> cases b3 <;> first | exact .inr rfl | exact .inl ⟨(), rfl, trivial, rfl⟩) () trivial
  simpa using h
theorem doc_head {d : DDoc} {X Y : Option Bool} (hY : ((okName d.name = true ∧ 0 ≤ d.from_ ∧ d.from_ ≤ 999999000) ∧ okText d.text = true) ∧ d.list.length ≤ 8 → X = Y) (hN : ¬ (((okName d.name = true ∧ 0 ≤ d.from_ ∧ d.from_ ≤ 999999000) ∧ okText d.text = true) ∧ d.list.length ≤ 8) → Y = some false) :
    (bif (((!okName d.name || !decide (0 ≤ d.from_ ∧ d.from_ ≤ 999999000)) || !okText d.text) || decide ((8 : Int) < (d.list.length : Int))) then some false else X) = Y := by
  by_cases h : ((okName d.name = true ∧ 0 ≤ d.from_ ∧ d.from_ ≤ 999999000) ∧ okText d.text = true) ∧ d.list.length ≤ 8
  · rw [h.1.1.1, decide_eq_true h.1.1.2, h.1.2, decide_eq_false (p := (8 : Int) < (d.list.length : Int)) (by omega)]
    exact hY h
  · rw [hN h]
    have : (((!okName d.name || !decide (0 ≤ d.from_ ∧ d.from_ ≤ 999999000)) || !okText d.text) || decide ((8 : Int) < (d.list.length : Int))) = true := by
      cases h1 : okName d.name
      · rfl
      · by_cases h2 : 0 ≤ d.from_ ∧ d.from_ ≤ 999999000
        · cases h3 : okText d.text
          · simp
          · have : ¬ d.list.length ≤ 8 := fun h4 => h ⟨⟨⟨h1, h2⟩, h3⟩, h4⟩
            rw [decide_eq_true (p := (8 : Int) < (d.list.length : Int)) (by omega)]; simp
        · rw [decide_eq_false h2]; simp
    rw [this]; rfl
theorem okDoc_no {d : DDoc} (h : ¬ (((okName d.name = true ∧ 0 ≤ d.from_ ∧ d.from_ ≤ 999999000) ∧ okText d.text = true) ∧ d.list.length ≤ 8)) : okDoc d = false := by
  cases hk : okDoc d with
  | false => rfl
  | true =>
    unfold okDoc at hk
    simp only [Bool.and_eq_true, decide_eq_true_eq] at hk
    exact absurd ⟨⟨⟨hk.1.1.1.1, hk.1.1.1.2⟩, hk.1.1.2⟩, hk.1.2⟩ h
theorem okDoc_yes {d : DDoc} (h : ((okName d.name = true ∧ 0 ≤ d.from_ ∧ d.from_ ≤ 999999000) ∧ okText d.text = true) ∧ d.list.length ≤ 8) : okDoc d = ((foldE d.list d.text).isSome && seenL (d.from_ + d.list.length) d.seen none) := by
  unfold okDoc
  rw [h.1.1.1, decide_eq_true h.1.1.2, h.1.2, decide_eq_true h.2]; rfl
theorem i_DocOk (d : DDoc) (h : smDDoc d) : x_impl_DocOk d = some (okDoc d) := by
  have hl := h.2.2.2.1; have hs := h.2.2.2.2; have hnm := h.1
  unfold smT at hnm
  unfold x_impl_DocOk
  simp only [i_NameOk d.name (by omega), i_within, i_TextOk, Option.bind_some, cs_, co_]
  refine doc_head (fun hc => ?_) (fun hc => by rw [okDoc_no hc])
  rw [okDoc_yes hc, each_all (b := .inr ()) d.list okEntry (fun x k hk hx => by
    unfold x_impl_DocOk_f0 x_impl_DocOk_b0; rw [hx, i_EntryOk]; cases okEntry x <;> rfl), Option.bind_some]
  cases ha : d.list.all okEntry with
  | false => rw [foldE_no _ _ ha]; rfl
  | true =>
    rw [foldE_all _ _ ha]
    simp only [cond_true, Sum.elim_inl]
    rw [i_opsOf hl, Option.bind_some, i_ApplyAll, hc.1.2, Option.bind_some, if_pos rfl]
    cases hm : appAll (d.list.map fun e => e.o) d.text with
    | none => rfl
    | some u =>
      simp only [told, Bool.not_true, cond_false, Option.isSome_some, Bool.true_and]
      rw [i_seen_loop d hs.1 hc.1.1.2 hc.2]
      cases seenL (d.from_ + d.list.length) d.seen none <;> rfl
theorem s_DocOk (d : DDoc) (h : smDDoc d) : x_spec_DocOk d = some (okDoc d) := by
  have hs := h.2.2.2.2; have hnm := h.1
  unfold smT at hnm
  unfold x_spec_DocOk
  simp only [s_NameOk d.name (by omega), s_In, s_TextOk, Option.bind_some, cs_, co_]
  refine doc_head (fun hc => ?_) (fun hc => by rw [okDoc_no hc])
  rw [okDoc_yes hc, each_run (F := x_spec_DocOk_f0 d) (e := fun (_ : List Int) => (Sum.inl () : Sum Unit Unit)) d.list (fun _ _ s => okText s = true) (fun r _ s => bif (foldE r s).isSome then Sum.inl () else Sum.inr ()) (fun s _ => rfl) (fun x r k s hk hx hP => by
    unfold x_spec_DocOk_f0 x_spec_DocOk_b0
    rw [hx, s_Apply, Option.bind_some, s_EntryOk, s_TextOk, foldE]
    cases hf : fits x.o s with
    | false => exact .inr rfl
    | true =>
      have ht := okText_appl hf
      cases he : okEntry x with
      | false => exact .inr rfl
      | true =>
        simp only [if_true, Bool.not_true, cond_false, Option.bind_some, ht, Bool.and_self]
        exact .inl ⟨_, rfl, ht, rfl⟩) d.text hc.1.2, Option.bind_some]
  cases (foldE d.list d.text).isSome with
  | false => rfl
  | true =>
    simp only [cond_true, Sum.elim_inl, Bool.true_and]
    rw [s_seen_loop d hs.1 hc.1.1.2 hc.2]
    cases seenL (d.from_ + d.list.length) d.seen none <;> rfl
theorem okDoc_get {d : DDoc} (h : okDoc d = true) : (0 ≤ d.from_ ∧ d.from_ ≤ 999999000) ∧ d.list.length ≤ 8 := by
  unfold okDoc at h
  simp only [Bool.and_eq_true, decide_eq_true_eq] at h
  exact ⟨h.1.1.1.2, h.1.2⟩
theorem entry_eq (a b : DEntry) : (a = b) ↔ ((a.client = b.client ∧ a.seq = b.seq) ∧ a.o = b.o) := by cases a; cases b; simp [and_assoc]
theorem i_EntrySame (a b : DEntry) : x_impl_EntrySame a b = some (decide (a = b)) := by
  unfold x_impl_EntrySame
  simp only [i_OpSame, Option.bind_some, cs_, ca_]
  refine bsome ?_
  simp [entry_eq]
theorem s_EntrySame (a b : DEntry) : x_spec_EntrySame a b = some (decide (a = b)) := by
  unfold x_spec_EntrySame
  simp only [s_OpSame, Option.bind_some, cs_, ca_]
  refine bsome ?_
  simp [entry_eq]
end Go.Proofs.YtjbonmmmcnpjiaaGreatDoor
