/- Rings and hubs that are right. No condition. -/
import Derived.Test.YtjbonmmmcnpjiaaGreatDoorMx
import Derived.Test.YtjbonmmmcnpjiaaGreatDoorHz
import Derived.Test.YtjbonmmmcnpjiaaGreatDoorH1
namespace Go.Proofs.YtjbonmmmcnpjiaaGreatDoor
noncomputable def okRing (r : DRing) : Bool := (((decide (1 ≤ r.cap ∧ r.cap ≤ 6) && decide (1 ≤ r.next ∧ r.next ≤ 1000000000)) && decide ((r.list.length : Int) ≤ r.cap)) && (!r.out || decide (r.list.length = 0))) && r.list.all okEntry
theorem i_RingOk (r : DRing) : x_impl_RingOk r = some (okRing r) := by
  unfold x_impl_RingOk okRing
  rw [each_all (b := .inr ()) r.list okEntry (fun x k hk hx => by
    unfold x_impl_RingOk_f0 x_impl_RingOk_b0; rw [hx, i_EntryOk]; cases okEntry x <;> rfl)]
  simp only [i_within, Option.bind_some, cs_, ca_, co_, cm_, cd_n]
  cases r.list.all okEntry <;> cases r.out <;> simp only [cond_true, cond_false, Sum.elim_inl, Sum.elim_inr, cs_, cn_, Bool.not_true, Bool.not_false, Bool.false_and, Bool.true_and, Bool.and_true, Bool.and_false, Bool.or_false, Bool.false_or, Bool.true_or] <;> refine bsome ?_ <;> simp <;> omega
theorem s_RingOk (r : DRing) : x_spec_RingOk r = some (okRing r) := by
  unfold x_spec_RingOk okRing
  rw [each_all (b := .inr ()) r.list okEntry (fun x k hk hx => by
    unfold x_spec_RingOk_f0 x_spec_RingOk_b0; rw [hx, s_EntryOk]; cases okEntry x <;> rfl)]
  simp only [s_In, Option.bind_some, cs_, ca_, cm_, cd_n]
  cases r.list.all okEntry <;> cases r.out <;> simp only [cond_true, cond_false, Sum.elim_inl, Sum.elim_inr, Bool.not_true, Bool.not_false, Bool.and_true, Bool.and_false, Bool.false_or, Bool.true_or] <;> refine bsome ?_ <;> simp <;> omega

noncomputable def hubIx (l : List DDoc) (n : ByteArray) : Int := ixOf (fun d => decide (d.name = n)) l
theorem i_HubDoc (h : DHub) (n : ByteArray) : x_impl_HubDoc h n = some (hubIx h.docs n) := by
  unfold x_impl_HubDoc x_slices_IndexFunc_impl_Doc_impl_Doc
  rw [each_ix h.docs (fun d => decide (d.name = n)) n (fun k => .inr (k, n)) (fun x k hk hx => by
    unfold x_slices_IndexFunc_impl_Doc_impl_Doc_f0 x_slices_IndexFunc_impl_Doc_impl_Doc_b0 x_impl_HubDoc_1
    rw [hx]; cases decide (x.name = n) <;> rfl)]
  unfold hubIx
  simp only [Option.bind_some]
  split
  · rfl
  · have := ixOf_ge (fun d : DDoc => decide (d.name = n)) h.docs
    show some (-1) = _
    congr 1; omega
theorem s_HubDoc (h : DHub) (n : ByteArray) : x_spec_HubDoc h n = some (hubIx h.docs n) := by
  unfold x_spec_HubDoc
  rw [each_ix h.docs (fun d => decide (d.name = n)) () (fun k => .inr k) (fun x k hk hx => by
    unfold x_spec_HubDoc_f0 x_spec_HubDoc_b0
    rw [hx]; cases decide (x.name = n) <;> rfl)]
  unfold hubIx
  simp only [Option.bind_some]
  split
  · rfl
  · have := ixOf_ge (fun d : DDoc => decide (d.name = n)) h.docs
    show some (-1) = _
    congr 1; omega
def headOf (d : DDoc) : Int := d.from_ + d.list.length
theorem i_HeadRev {d : DDoc} (h : okDoc d = true) : x_impl_HeadRev d = some (headOf d) := by
  have := okDoc_get h
  unfold x_impl_HeadRev headOf
  rw [xg_I (by omega) (by omega)]
theorem s_HeadRev {d : DDoc} (h : okDoc d = true) : x_spec_HeadRev d = some (headOf d) := by
  have := okDoc_get h
  unfold x_spec_HeadRev headOf
  rw [xg_I (by omega) (by omega)]
noncomputable def docQ (p : Option DDoc) (d : DDoc) : Bool := okDoc d && !prevB (fun p => !sLt p.name d.name) p
noncomputable def subQ (h : DHub) (p : Option DSub) (s : DSub) : Bool :=
  (((decide (1 ≤ s.id ∧ s.id ≤ h.last) && !prevB (fun p => decide (s.id ≤ p.id)) p) && okRing s.r) && decide (0 ≤ hubIx h.docs s.doc)) && (s.r.out || decide (s.r.next + (s.r.list.length : Int) = headOf (el h.docs (hubIx h.docs s.doc).toNat) + 1))
noncomputable def okHub (h : DHub) : Bool := ((decide (h.docs.length ≤ 5) && decide (h.subs.length ≤ 6)) && decide (0 ≤ h.last ∧ h.last ≤ 1000000000)) && (chainL docQ none h.docs && chainL (subQ h) none h.subs)
theorem okRing_get {r : DRing} (h : okRing r = true) : (1 ≤ r.cap ∧ r.cap ≤ 6) ∧ (1 ≤ r.next ∧ r.next ≤ 1000000000) ∧ (r.list.length : Int) ≤ r.cap ∧ (r.out = true → r.list = []) ∧ r.list.all okEntry = true := by
  unfold okRing at h
  simp only [Bool.and_eq_true, decide_eq_true_eq, Bool.or_eq_true, Bool.not_eq_true'] at h
  refine ⟨h.1.1.1.1, h.1.1.1.2, h.1.1.2, fun ho => ?_, h.2⟩
  rcases h.1.2 with h2 | h2
  · rw [ho] at h2; cases h2
  · exact List.eq_nil_of_length_eq_zero h2
theorem hub_head {h : DHub} {X Y : Option Bool} (hY : (h.docs.length ≤ 5 ∧ h.subs.length ≤ 6) ∧ 0 ≤ h.last ∧ h.last ≤ 1000000000 → X = Y) (hN : ¬ ((h.docs.length ≤ 5 ∧ h.subs.length ≤ 6) ∧ 0 ≤ h.last ∧ h.last ≤ 1000000000) → Y = some false) :
    (bif ((decide ((5 : Int) < (h.docs.length : Int)) || decide ((6 : Int) < (h.subs.length : Int))) || !decide (0 ≤ h.last ∧ h.last ≤ 1000000000)) then some false else X) = Y := by
  by_cases hc : (h.docs.length ≤ 5 ∧ h.subs.length ≤ 6) ∧ 0 ≤ h.last ∧ h.last ≤ 1000000000
  · rw [decide_eq_true hc.2, decide_eq_false (p := (5 : Int) < (h.docs.length : Int)) (by omega), decide_eq_false (p := (6 : Int) < (h.subs.length : Int)) (by omega)]
    exact hY hc
  · rw [hN hc]
    have : ((decide ((5 : Int) < (h.docs.length : Int)) || decide ((6 : Int) < (h.subs.length : Int))) || !decide (0 ≤ h.last ∧ h.last ≤ 1000000000)) = true := by
      simp only [Bool.or_eq_true, decide_eq_true_eq, Bool.not_eq_true', decide_eq_false_iff_not]
      omega
    rw [this]; rfl
theorem okHub_no {h : DHub} (hc : ¬ ((h.docs.length ≤ 5 ∧ h.subs.length ≤ 6) ∧ 0 ≤ h.last ∧ h.last ≤ 1000000000)) : okHub h = false := by
  cases hk : okHub h with
  | false => rfl
  | true =>
    unfold okHub at hk
    simp only [Bool.and_eq_true, decide_eq_true_eq] at hk
    exact absurd hk.1 hc
theorem okHub_yes {h : DHub} (hc : (h.docs.length ≤ 5 ∧ h.subs.length ≤ 6) ∧ 0 ≤ h.last ∧ h.last ≤ 1000000000) : okHub h = (chainL docQ none h.docs && chainL (subQ h) none h.subs) := by
  unfold okHub
  rw [decide_eq_true hc.1.1, decide_eq_true hc.1.2, decide_eq_true hc.2]; rfl
theorem docs_all {l : List DDoc} {p : Option DDoc} (h : chainL docQ p l = true) : ∀ d ∈ l, okDoc d = true := fun d hd => by
  obtain ⟨q, hq⟩ := chain_all h d hd
  unfold docQ at hq
  simp only [Bool.and_eq_true] at hq
  exact hq.1
theorem i_HubOk (h : DHub) (hm : smDHub h) : x_impl_HubOk h = some (okHub h) := by
  obtain ⟨_, hd, hs, _⟩ := hm
  unfold x_impl_HubOk
  simp only [i_within, Option.bind_some, cs_, co_]
  refine hub_head (fun hc => ?_) (fun hc => by rw [okHub_no hc])
  rw [okHub_yes hc, each_chain (b := .inr ()) h.docs docQ (fun k x hk hx => by
    unfold x_impl_HubOk_f0 x_impl_HubOk_b0
    have e := prevAt h.docs (fun p => !sLt p.name x.name) hd.1 hk
    rw [hx, i_DocOk x (hx ▸ hd.2 _ (el_mem hk)), Option.bind_some, e]
    simp only [Option.bind_some, cs_, co_, docQ]
    cases okDoc x <;> cases prevB (fun p => !sLt p.name x.name) (if k = 0 then none else some (el h.docs (k - 1))) <;> rfl), Option.bind_some]
  cases hdoc : chainL docQ none h.docs with
  | false => rfl
  | true =>
    have hda := docs_all hdoc
    simp only [cond_true, Sum.elim_inl, Bool.true_and]
    rw [each_chain (b := .inr false) h.subs (subQ h) (fun k x hk hx => by
      unfold x_impl_HubOk_f1 x_impl_HubOk_b1
      have e := prevAt h.subs (fun p => decide (x.id ≤ p.id)) hs.1 hk
      rw [hx, i_HubDoc, Option.bind_some, e, i_within]
      rw [i_RingOk]
      simp only [Option.bind_some, cs_, co_, subQ]
      generalize prevB (fun p : DSub => decide (x.id ≤ p.id)) (if k = 0 then none else some (el h.subs (k - 1))) = q
      generalize hw : decide (1 ≤ x.id ∧ x.id ≤ h.last) = w
      cases hr : okRing x.r with
      | false => cases w <;> cases q <;> rfl
      | true =>
        have hg := okRing_get hr
        have hlt := ixOf_lt (fun d : DDoc => decide (d.name = x.doc)) h.docs
        by_cases hi : 0 ≤ hubIx h.docs x.doc
        · have hlt2 : hubIx h.docs x.doc < h.docs.length := hlt
          have hok := hda _ (el_mem (l := h.docs) (i := (hubIx h.docs x.doc).toNat) (by omega))
          have hh := okDoc_get hok
          rw [decide_eq_false (p := hubIx h.docs x.doc < 0) (by omega), decide_eq_true hi, xg_I (by omega) (by omega), xg_of ⟨hi, hlt2⟩, i_HeadRev hok, Option.bind_some, xg_I (by unfold headOf; omega) (by unfold headOf; omega)]
          cases w <;> cases q <;> cases x.r.out <;> simp only [cond_true, cond_false, Bool.not_true, Bool.not_false, Bool.or_false, Bool.or_true, Bool.true_or, Bool.false_or, Bool.and_true, Bool.and_false, Bool.true_and, Bool.false_and, Option.bind_some] <;>
            cases decide (x.r.next + (x.r.list.length : Int) = headOf (el h.docs (hubIx h.docs x.doc).toNat) + 1) <;> rfl
        · rw [decide_eq_true (p := hubIx h.docs x.doc < 0) (by omega), decide_eq_false hi]
          cases w <;> cases q <;> rfl), Option.bind_some]
    cases chainL (subQ h) none h.subs <;> rfl
theorem s_HubOk (h : DHub) (hm : smDHub h) : x_spec_HubOk h = some (okHub h) := by
  obtain ⟨_, hd, hs, _⟩ := hm
  unfold x_spec_HubOk
  simp only [s_In, Option.bind_some, cs_, co_]
  refine hub_head (fun hc => ?_) (fun hc => by rw [okHub_no hc])
  rw [okHub_yes hc, each_chain (b := .inr ()) h.docs docQ (fun k x hk hx => by
    unfold x_spec_HubOk_f0 x_spec_HubOk_b0
    have e := prevAt h.docs (fun p => !sLt p.name x.name) hd.1 hk
    rw [hx, s_DocOk x (hx ▸ hd.2 _ (el_mem hk)), Option.bind_some, e]
    simp only [Option.bind_some, cs_, co_, docQ]
    cases okDoc x <;> cases prevB (fun p => !sLt p.name x.name) (if k = 0 then none else some (el h.docs (k - 1))) <;> rfl), Option.bind_some]
  cases hdoc : chainL docQ none h.docs with
  | false => rfl
  | true =>
    have hda := docs_all hdoc
    simp only [cond_true, Sum.elim_inl, Bool.true_and]
    rw [each_chain (b := .inr false) h.subs (subQ h) (fun k x hk hx => by
      unfold x_spec_HubOk_f1 x_spec_HubOk_b1
      have e := prevAt h.subs (fun p => decide (x.id ≤ p.id)) hs.1 hk
      rw [hx, s_HubDoc, Option.bind_some, e, s_In]
      rw [s_RingOk]
      simp only [Option.bind_some, cs_, co_, subQ]
      generalize prevB (fun p : DSub => decide (x.id ≤ p.id)) (if k = 0 then none else some (el h.subs (k - 1))) = q
      generalize hw : decide (1 ≤ x.id ∧ x.id ≤ h.last) = w
      cases hr : okRing x.r with
      | false => cases w <;> cases q <;> rfl
      | true =>
        have hg := okRing_get hr
        have hlt := ixOf_lt (fun d : DDoc => decide (d.name = x.doc)) h.docs
        by_cases hi : 0 ≤ hubIx h.docs x.doc
        · have hlt2 : hubIx h.docs x.doc < h.docs.length := hlt
          have hok := hda _ (el_mem (l := h.docs) (i := (hubIx h.docs x.doc).toNat) (by omega))
          have hh := okDoc_get hok
          rw [decide_eq_false (p := hubIx h.docs x.doc < 0) (by omega), decide_eq_true hi, xg_I (by omega) (by omega), xg_of ⟨hi, hlt2⟩, s_HeadRev hok, Option.bind_some, xg_I (by unfold headOf; omega) (by unfold headOf; omega)]
          cases w <;> cases q <;> cases x.r.out <;> simp only [cond_true, cond_false, Bool.not_true, Bool.not_false, Bool.or_false, Bool.or_true, Bool.true_or, Bool.false_or, Bool.and_true, Bool.and_false, Bool.true_and, Bool.false_and, Option.bind_some] <;>
            cases decide (x.r.next + (x.r.list.length : Int) = headOf (el h.docs (hubIx h.docs x.doc).toNat) + 1) <;> rfl
        · rw [decide_eq_true (p := hubIx h.docs x.doc < 0) (by omega), decide_eq_false hi]
          cases w <;> cases q <;> rfl), Option.bind_some]
    cases chainL (subQ h) none h.subs <;> rfl
end Go.Proofs.YtjbonmmmcnpjiaaGreatDoor
