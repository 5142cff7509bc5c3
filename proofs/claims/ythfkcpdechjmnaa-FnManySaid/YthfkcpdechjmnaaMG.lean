/- Many changes made at once, combined. No condition. -/
import Derived.Test.YthfkcpdechjmnaaM3
import Derived.Test.YthfkcpdechjmnaaM8
import Derived.Test.YthfkcpdechjmnaaM9
import Derived.Test.YthfkcpdechjmnaaLM
namespace Go.Proofs.Ythfkcpdechjmnaa

theorem gfr_cong {x : DPart} (hx : okPart x = true) {A B : List DPart} (h : ∀ p d, gfr A p d = gfr B p d) (p : List Int) (d : Nat) : gfr (x :: A) p d = gfr (x :: B) p d := by
  rcases kind_3 hx with hk | hk | hk
  · by_cases h0 : 0 < x.n
    · rw [gfr_keep (by omega) (by omega) h0, gfr_keep (by omega) (by omega) h0, h]
    · rw [gfr_keep0 (by omega) (by omega) (by omega), gfr_keep0 (by omega) (by omega) (by omega), h]
  · rw [gfr_put hk, gfr_put hk, h]
  · rw [gfr_drop hk, gfr_drop hk, h]
theorem gfr_two {p : DPart} {n : Int} (h : okPart p = true) (h0 : 0 ≤ n) (h1 : n ≤ pSz p) (o : List DPart) (l : List Int) (d : Nat) : gfr (p :: o) l d = gfr (pCut p n :: pRst p n :: o) l d := by
  obtain ⟨k, m, s⟩ := p
  unfold pSz pCut pRst at *
  simp only at h1
  rcases okPart_cases h with ⟨g1, g2, g3, g4⟩ | ⟨g1, g2, g3, g4⟩ | ⟨g1, g2, g3, g4⟩ <;> simp only at g1 g2 g3 g4
  · subst g1 g4
    simp only [List.length_nil] at h1
    rw [if_neg (by simp), if_neg (by simp)]
    simp only
    by_cases hn : 0 < n
    · by_cases hm : 0 < m - n
      · rw [gfr_keep (by simp) (by simp) (by simp only; omega), gfr_keep (by simp) (by simp) hn, gfr_keep (by simp) (by simp) hm]
        simp only
        have e := rep_glue (([], 0) : List Int × Nat) n.toNat (m - n).toNat (by omega) (by omega) (l, d)
        rw [show n.toNat + (m - n).toNat = m.toNat by omega] at e
        simp only [List.cons_append, List.cons.injEq, true_and] at e
        rw [← e]
        simp
      · rw [gfr_keep (by simp) (by simp) (by simp only; omega), gfr_keep (by simp) (by simp) hn, gfr_keep0 (by simp) (by simp) (by simp only; omega)]
        simp only
        rw [show m.toNat = n.toNat by omega]
    · rw [gfr_keep0 (q := ⟨1, n, []⟩) (by simp) (by simp) (by simp only; omega), show m - n = m by omega]
  · subst g1 g2
    rw [if_pos rfl, if_pos rfl, gfr_put rfl, gfr_put rfl, gfr_put rfl]
    simp only [List.drop_zero, List.take_length, List.append_assoc, List.take_append_drop]
  · subst g1 g4
    simp only [List.length_nil] at h1
    rw [if_neg (by simp), if_neg (by simp), gfr_drop rfl, gfr_drop rfl, gfr_drop rfl]
    simp only
    rw [show d + n.toNat + (m - n).toNat = d + m.toNat by omega]
theorem gfr_z {p : DPart} (h : okPart p = true) (h0 : pSz p = 0) (o : List DPart) (l : List Int) (d : Nat) : gfr (p :: o) l d = gfr o l d := by
  obtain ⟨k, m, s⟩ := p
  unfold pSz at h0
  simp only at h0
  rcases okPart_cases h with ⟨g1, g2, g3, g4⟩ | ⟨g1, g2, g3, g4⟩ | ⟨g1, g2, g3, g4⟩ <;> simp only at g1 g2 g3 g4
  · rw [gfr_keep0 (by simp only; omega) (by simp only; omega) (by simp only; omega)]
  · have hs : s = [] := List.length_eq_zero_iff.1 (by omega)
    rw [gfr_put g1, hs]; simp
  · rw [gfr_drop g1, show (m : Int).toNat = 0 by omega]; simp
theorem gfr_skp : ∀ {l : List DPart}, oks l → ∀ p d, gfr (skp l) p d = gfr l p d
  | [], _, _, _ => rfl
  | x :: r, h, p, d => by
    by_cases h0 : pSz x = 0
    · rw [skp_z h0, gfr_skp (oks_tl h), gfr_z (oks_hd h) h0]
    · rw [skp_n h0]

def allKeep (k : List DPart) : Prop := ∀ p ∈ k, p.kind = 1
theorem allKeep_skp : ∀ {l : List DPart}, allKeep l → allKeep (skp l)
  | [], h => h
  | x :: r, h => by
    by_cases h0 : pSz x = 0
    · rw [skp_z h0]; exact allKeep_skp fun p hp => h p (by simp [hp])
    · rw [skp_n h0]; exact h
theorem cut_same {p q : DPart} {n : Int} (hp : okPart p = true) (hq : okPart q = true) (kp : p.kind = 1) (kq : q.kind = 1) : pCut p n = pCut q n := by rw [cut_1 hp kp, cut_1 hq kq]
/-- Beside what keeps all, a change stays as it is. -/
theorem keep_raw (f : Int) (g : Em → List DPart) (hf : f ≠ 1) (hR : ∀ q, g (none, some q) = [q]) (hB : ∀ p q, p.kind = 1 → (q.kind = 1 → p = q) → g (some p, some q) = [q]) : ∀ (n : Nat) {k b : List DPart}, J f k b → allKeep k → szs k + szs b ≤ n → ∀ l d, gfr ((tr f k b).flatMap g) l d = gfr b l d := by
  intro n
  induction n with
  | zero =>
    intro k b h _ hz l d
    have n1 := szs_nn h.oa
    have n2 := szs_nn h.ob
    have z1 := zero_skp h.oa (by omega)
    have z2 := zero_skp h.ob (by omega)
    rw [tr_E z1 z2, ← gfr_skp h.ob, z2]; rfl
  | succ n ih =>
    intro k b h hk hz l d
    have ob := h.ob
    have hks := allKeep_skp hk
    rcases tr_cases h with ⟨hA, hB', ht⟩ | ⟨p, r, hA, hk1, ok, hl, g1, g2, ht⟩ | ⟨q, r, hB', hk1, ok, hl, hA, g1, g2, ht⟩ | ⟨p, r, q, s, m, hA, hB', hk1, hk2, okp, okq, hl, hl2, hn, h0, h1, h2, g1, g2, ht⟩ <;> rw [ht]
    · rw [← gfr_skp ob, hB']; rfl
    · have := hks p (by rw [hA]; simp)
      omega
    · have b1 := pSz_bd ok
      have e := ih g1 hks (by omega)
      rw [← gfr_skp ob, hB', gfr_two ok b1.1 (Int.le_refl _), List.flatMap_cons, hR]
      exact gfr_cong (cut_ok ok b1.1 (Int.le_refl _)).1 e l d
    · have kp : p.kind = 1 := hks p (by rw [hA]; simp)
      have co := cut_ok okp h0 h1
      have cq := cut_ok okq h0 h2
      have e := ih g1 (fun x hx => by
        rcases List.mem_cons.1 hx with rfl | hx
        · rw [co.2.2.2.2.1]; exact kp
        · exact hks x (by rw [hA]; simp [hx])) (by omega)
      rw [← gfr_skp ob, hB', gfr_two okq h0 h2, List.flatMap_cons, hB _ _ (by rw [co.2.1]; exact kp) (fun hq => cut_same okp okq kp (by rw [← cq.2.1]; exact hq))]
      exact gfr_cong cq.1 e l d
theorem keeping_keep (n : Int) : allKeep (keeping n) := fun p hp => by
  unfold keeping at hp
  split at hp
  · rw [List.mem_singleton.1 hp]
  · cases hp
theorem keeping_sum {n : Int} (h0 : 0 ≤ n) (h1 : n ≤ 200) : fromOf (keeping n) = n ∧ toOf (keeping n) = n ∧ putsOf (keeping n) = 0 ∧ dropsOf (keeping n) = 0 := by
  unfold keeping
  split
  · simp [fromOf, toOf, putsOf, dropsOf, sumI, pFrom, pTo, pKeep, pPut, pDrop]
  · have : n = 0 := by omega
    subst this
    exact ⟨rfl, rfl, rfl, rfl⟩
theorem keep_led {a : List DPart} {n : Int} (ha : okOp a = true) (hn : nrm a = a) (h0 : 0 ≤ n) (h1 : n ≤ 200) (hf : fromOf a = n) : ledY (keeping n) a = a ∧ comp (keeping n) a = a := by
  have ks := keeping_sum h0 h1
  obtain ⟨j, hl⟩ := J2 (keeping_ok n) ha (by rw [ks.1, hf])
  obtain ⟨j3, hl3⟩ := J3 (keeping_ok n) ha (by rw [ks.2.1, hf])
  have y := (rawY_ok j hl).1
  have c := (rawC_ok j3 hl3).1
  refine ⟨?_, ?_⟩
  · unfold ledY
    conv => rhs; rw [← hn]
    refine nrm_eq (kinds_nn (oks_kinds y)) (kinds_nn (okOp_kinds ha)) ?_
    rw [gf_gfr, gf_gfr]
    exact keep_raw 2 emY (by decide) (fun _ => rfl) (fun p q hp _ => by show (if p.kind = 1 then [q] else []) = [q]; rw [if_pos hp]) 100000 j (keeping_keep n) (by omega) [] 0
  · unfold comp
    conv => rhs; rw [← hn]
    refine nrm_eq (kinds_nn (oks_kinds c)) (kinds_nn (okOp_kinds ha)) ?_
    rw [gf_gfr, gf_gfr]
    exact keep_raw 3 emC (by decide) (fun _ => rfl) (fun p q hp hq => by
      show (if q.kind = 1 then [p] else if p.kind = 1 then [q] else []) = [q]
      by_cases h : q.kind = 1
      · rw [if_pos h, hq h]
      · rw [if_neg h, if_pos hp]) 100000 j3 (keeping_keep n) (by omega) [] 0

def runM : List (List DPart) → List Int → Option (List Int)
  | [], t => some t
  | o :: r, t => if fits o t then runM r (appl o t) else none
theorem i_AllM (l : List (List DPart)) (t : List Int) : x_impl_ApplyAll l t = some (if okText t then (match runM l t with | some u => (u, true) | none => ([], false)) else ([], false)) := by
  unfold x_impl_ApplyAll
  rw [i_TextOk, Option.bind_some]
  cases ht : okText t with
  | false => rfl
  | true =>
    have := okText_len ht
    rw [Bool.not_true, cd_F, i_copyInts (by omega), Option.bind_some, each_run (F := x_impl_ApplyAll_f0 l) (e := fun (s : List Int) => (Sum.inl s : Sum (List Int) Unit)) l (fun _ _ _ => True) (fun r _ s => match runM r s with | some u => Sum.inl u | none => Sum.inr ()) (fun s _ => rfl) (fun o r k s hk hx _ => by
      unfold x_impl_ApplyAll_f0 x_impl_ApplyAll_b0
      rw [hx]
      simp only [i_Apply, Option.bind_some, runM]
      cases hf : fits o s with
      | true => exact .inl ⟨appl o s, rfl, trivial, rfl⟩
      | false => exact .inr rfl) t trivial, Option.bind_some]
    cases runM l t <;> rfl

theorem okText_mid {o : List DPart} {t : List Int} (h : fits o t = true) : okText (appl o t) = true := by
  obtain ⟨h1, h2, h3⟩ := fits_get h
  have h4 := appl_len (okOp_kinds h1) h3
  have h5 := okOp_to h1
  have key : ∀ {o : List DPart}, (∀ p ∈ o, p.kind = 2 → p.signs.all okSign = true) → ∀ {t : List Int}, t.all okSign = true → (appl o t).all okSign = true := by
    intro o
    induction o with
    | nil => intro _ t _; rfl
    | cons q o ih =>
      intro h t ht
      have hd : ∀ k, (t.drop k).all okSign = true := fun k => List.all_eq_true.2 fun x hx => List.all_eq_true.1 ht x (List.mem_of_mem_drop hx)
      have htk : ∀ k, (t.take k).all okSign = true := fun k => List.all_eq_true.2 fun x hx => List.all_eq_true.1 ht x (List.mem_of_mem_take hx)
      have ih' := fun {t : List Int} (ht : t.all okSign = true) => ih (fun p hp => h p (by simp [hp])) ht
      unfold appl
      split
      · rw [List.all_append, htk, ih' (hd _)]; rfl
      · split
        · rename_i hk; rw [List.all_append, h q (by simp) hk, ih' ht]; rfl
        · exact ih' (hd _)
  have ts : t.all okSign = true := by
    unfold okText at h2
    simp only [Bool.and_eq_true] at h2
    exact h2.2
  have h6 := key (okParts_signs (okOp_parts h1)) ts
  unfold okText
  rw [h6]; simp; omega

theorem math_FnMany (code : List UInt8) (_ : wfL wfY code) : x_laws_FnMany code = some true := by
  unfold x_laws_FnMany
  by_cases hl : (1048576 : Int) < (code.length : Int)
  · rw [cd_t hl]
  rw [cd_f hl]
  obtain ⟨t, o, b, h1, t1, t2, o1, o2, o3, b1, b2, b3⟩ := s_MakeOps code (by omega)
  have ok := okOp_kinds o1
  have a1 := okOp_nrm o1
  have a2 := from_nrm ok
  have a3 := (sums_nrm ok).2.1
  have ks := keeping_sum (n := t.length) (by omega) (by omega)
  obtain ⟨k1, k2⟩ := keep_led (n := t.length) a1 (nrm_nrm ok) (by omega) (by omega) (by rw [a2, o2])
  have ta := okOp_to a1
  obtain ⟨l1, l2, l3⟩ := led_yes (keeping_ok t.length) a1 (by rw [ks.1, a2, o2]) (by rw [ks.2.2.1]; omega)
  obtain ⟨c1, c2⟩ := compose_yes (keeping_ok t.length) a1 (by rw [ks.2.1, a2, o2])
  have e1 := sum_from b
  have e2 := sum_to b
  have e3 := (okOp_all b1).2.2.2.1
  obtain ⟨m1, m2, m3⟩ := led_yes a1 b1 (by rw [a2, o2, b2]) (by omega)
  have ls := led_sums a1 b1 (by rw [a2, o2, b2])
  obtain ⟨d1, d2⟩ := compose_yes a1 m3 ls.2.1.symm
  have cs := comp_sums a1 m3 ls.2.1.symm
  have f1 : fits (nrm o) t = true := by unfold fits; rw [a1, t1, a2, o2]; simp
  have al := appl_len (okOp_kinds a1) (fits_get f1).2.2
  have f2 : fits (ledY (nrm o) b) (appl (nrm o) t) = true := by unfold fits; rw [m3, okText_mid f1, ls.2.1, al]; simp
  have f3 : fits (comp (nrm o) (ledY (nrm o) b)) t = true := by unfold fits; rw [d2, t1, cs.1, a2, o2]; simp
  have s1 : mstep t.length (keeping t.length) (nrm o) = true := by
    unfold mstep
    rw [l1]
    simp only
    rw [k1, c1, decide_eq_true (by rw [a2, o2])]
    rfl
  have v1 : (compose (keeping t.length) (led (keeping t.length) (nrm o)).2.1).1 = nrm o := by
    rw [l1]
    simp only
    rw [k1, c1]
    exact k2
  have s2 : mstep t.length (nrm o) b = true := by
    unfold mstep
    rw [m1]
    simp only
    rw [d1, decide_eq_true b2]
    rfl
  have v2 : (compose (nrm o) (led (nrm o) b).2.1).1 = comp (nrm o) (ledY (nrm o) b) := by
    rw [m1]
    simp only
    rw [d1]
  have mg : mergeOps [nrm o, b] t.length = (comp (nrm o) (ledY (nrm o) b), true) := by
    unfold mergeOps
    rw [if_pos ⟨by omega, by omega⟩]
    rw [mfold, if_pos s1, v1, mfold, if_pos s2, v2]; rfl
  have mn : mergeOps [] t.length = (keeping t.length, true) := by
    unfold mergeOps
    rw [if_pos ⟨by omega, by omega⟩]; rfl
  rw [h1, Option.bind_some]
  simp only
  rw [i_OpNorm, if_pos o1, Option.bind_some, i_MergeOps, mg, Option.bind_some, i_Transform, m1, Option.bind_some]
  simp only
  rw [i_AllM, t1, if_pos rfl]
  simp only [runM, f1, f2, if_true, Option.bind_some]
  rw [i_Apply, if_pos f3, Option.bind_some, i_MergeOps, mn, Option.bind_some]
  simp only [cd_T, Option.bind_some]
  rw [i_SignsSame, decide_eq_true (cs.2.2.1 t (by rw [a2, o2])).symm, Option.bind_some, Option.bind_some]
  simp only [cd_T]
  unfold x_impl_Idle
  rw [i_OpOk, i_Puts, i_Drops, keeping_ok, if_pos rfl, if_pos rfl, ks.2.2.1, ks.2.2.2]
  rfl
end Go.Proofs.Ythfkcpdechjmnaa
