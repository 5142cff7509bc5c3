/- What stands in a story, led past somebody else's change. No condition. -/
import Derived.Test.YthfkcpdechjmnaaM2
import Derived.Test.YthfkcpdechjmnaaMs
import Derived.Test.YthfkcpdechjmnaaGP
namespace Go.Proofs.Ythfkcpdechjmnaa

theorem mid_app (f : Int) (a b : List DPart) : midOf f (a ++ b) = midOf f a + midOf f b := sumI_app _ a b
theorem mid_one (f : Int) (p : DPart) : midOf f [p] = pMid f p := by rw [mid_cons]; show pMid f p + 0 = _; omega
theorem pMid_cut {f : Int} {p : DPart} {n : Int} (h : okPart p = true) (h0 : 0 ≤ n) (h1 : n ≤ pSz p) : pMid f (pCut p n) = if p.kind = f then 0 else n := by
  have g := cut_ok h h0 h1
  unfold pMid
  rw [g.2.1, g.2.2.1]
theorem pMid_keep (f : Int) (hf : f ≠ 1) (n : Int) : pMid f ⟨1, n, []⟩ = n := by
  unfold pMid pSz
  rw [if_neg (fun h => hf h.symm)]; simp
theorem raw_sums : ∀ (n : Nat) {a b : List DPart}, J 2 a b → szs a + szs b ≤ n → midOf 2 (rawX a b) = midOf 3 b ∧ midOf 2 (rawY a b) = midOf 3 a ∧ midOf 3 (rawX a b) = midOf 3 (rawY a b) := by
  intro n
  induction n with
  | zero =>
    intro a b h hz
    have n1 := szs_nn h.oa
    have n2 := szs_nn h.ob
    have z1 := zero_skp h.oa (by omega)
    have z2 := zero_skp h.ob (by omega)
    unfold rawX rawY
    rw [tr_E z1 z2, ← mid_skp 3 a, ← mid_skp 3 b, z1, z2]
    exact ⟨rfl, rfl, rfl⟩
  | succ n ih =>
    intro a b h hz
    have ma := mid_skp 3 a
    have mb := mid_skp 3 b
    unfold rawX rawY
    rcases tr_cases h with ⟨hA, hB, ht⟩ | ⟨p, r, hA, hk, ok, hl, g1, g2, ht⟩ | ⟨q, t, hB, hk, ok, hl, hA, g1, g2, ht⟩ | ⟨p, r, q, t, m, hA, hB, hk, hk2, okp, okq, hl, hl2, hn, h0, h1, h2, g1, g2, ht⟩ <;> rw [ht]
    · rw [← ma, ← mb, hA, hB]
      exact ⟨rfl, rfl, rfl⟩
    · have g := ih g1 (by omega)
      unfold rawX rawY at g
      have b1 := pSz_bd ok
      have c2 := pMid_cut (f := 2) ok b1.1 (Int.le_refl _)
      have c3 := pMid_cut (f := 3) ok b1.1 (Int.le_refl _)
      rw [if_pos hk] at c2
      rw [if_neg (by omega)] at c3
      rw [hA, mid_cons, pMid_n (by omega)] at ma
      have e := g.2.1
      rw [mid_cons, pMid_rst ok b1.1 (Int.le_refl _) (by omega), pMid_n (by omega)] at e
      simp only [List.flatMap_cons, emX, emY, mid_app, mid_one, c2, c3, cut_sl ok hk b1.1 (Int.le_refl _), pMid_keep 2 (by omega), pMid_keep 3 (by omega)]
      omega
    · have g := ih g1 (by omega)
      unfold rawX rawY at g
      have b1 := pSz_bd ok
      have c2 := pMid_cut (f := 2) ok b1.1 (Int.le_refl _)
      have c3 := pMid_cut (f := 3) ok b1.1 (Int.le_refl _)
      rw [if_pos hk] at c2
      rw [if_neg (by omega)] at c3
      rw [hB, mid_cons, pMid_n (by omega)] at mb
      have e := g.1
      rw [mid_cons, pMid_rst ok b1.1 (Int.le_refl _) (by omega), pMid_n (by omega)] at e
      simp only [List.flatMap_cons, emX, emY, mid_app, mid_one, c2, c3, cut_sl ok hk b1.1 (Int.le_refl _), pMid_keep 2 (by omega), pMid_keep 3 (by omega)]
      omega
    · have g := ih g1 (by omega)
      unfold rawX rawY at g
      have P3 : p.kind ≠ 1 → p.kind = 3 := fun h => by rcases okPart_cases okp with ⟨g1, _⟩ | ⟨g1, _⟩ | ⟨g1, _⟩ <;> omega
      have Q3 : q.kind ≠ 1 → q.kind = 3 := fun h => by rcases okPart_cases okq with ⟨g1, _⟩ | ⟨g1, _⟩ | ⟨g1, _⟩ <;> omega
      have c2 := pMid_cut (f := 2) okp h0 h1
      have c3 := pMid_cut (f := 3) okp h0 h1
      have d2 := pMid_cut (f := 2) okq h0 h2
      have d3 := pMid_cut (f := 3) okq h0 h2
      have kc := (cut_ok okp h0 h1).2.1
      have kd := (cut_ok okq h0 h2).2.1
      rw [hA, mid_cons] at ma
      rw [hB, mid_cons] at mb
      have e1 := g.1
      have e2 := g.2.1
      rw [mid_cons] at e1 e2
      rw [if_neg hk] at c2
      rw [if_neg hk2] at d2
      simp only [List.flatMap_cons, emX, emY, mid_app, kc, kd]
      by_cases k1 : p.kind = 1
      · rw [if_neg (by omega)] at c3
        rw [pMid_rst okp h0 h1 (by omega)] at e2
        rw [if_pos k1, mid_one, mid_one]
        by_cases k2 : q.kind = 1
        · rw [if_neg (by omega)] at d3
          rw [pMid_rst okq h0 h2 (by omega)] at e1
          rw [if_pos k2, mid_one, mid_one]
          omega
        · have := Q3 k2
          rw [if_pos this] at d3
          rw [pMid_rst0 okq h0 h2 this] at e1
          rw [if_neg k2]
          show 0 + _ = _ ∧ _ ∧ 0 + _ = _
          omega
      · have k3 := P3 k1
        rw [if_pos k3] at c3
        rw [pMid_rst0 okp h0 h1 k3] at e2
        rw [if_neg k1]
        by_cases k2 : q.kind = 1
        · rw [pMid_rst okq h0 h2 (by omega)] at e1
          rw [if_pos k2, mid_one, mid_one]
          show _ ∧ 0 + _ = _ ∧ _ = 0 + _
          omega
        · have := Q3 k2
          rw [pMid_rst0 okq h0 h2 this] at e1
          rw [if_neg k2]
          show 0 + _ = _ ∧ 0 + _ = _ ∧ 0 + _ = 0 + _
          omega
theorem led_get {a b : List DPart} (h : (led a b).2.2 = true) : okOp a = true ∧ okOp b = true ∧ fromOf a = fromOf b ∧ okOp (ledX a b) = true ∧ okOp (ledY a b) = true ∧ led a b = (ledX a b, ledY a b, true) := by
  unfold led at h ⊢
  split at h
  · rename_i g; exact ⟨g.1, g.2.1, g.2.2.1, g.2.2.2.1, g.2.2.2.2, if_pos g⟩
  · cases h
theorem oks_kinds {l : List DPart} (h : ∀ p ∈ l, okPart p = true) : kinds l := fun q hq => by
  rcases okPart_cases (h q hq) with ⟨g1, g2, g3, g4⟩ | ⟨g1, g2, g3, g4⟩ | ⟨g1, g2, g3, g4⟩
  · exact ⟨.inl g1, g2, fun h => by omega⟩
  · exact ⟨.inr (.inl g1), by omega, fun _ => g2⟩
  · exact ⟨.inr (.inr g1), g2, fun h => by omega⟩
/-- Where the two that are led past one another begin and end. -/
theorem led_sums {a b : List DPart} (ha : okOp a = true) (hb : okOp b = true) (hf : fromOf a = fromOf b) : fromOf (ledX a b) = toOf b ∧ fromOf (ledY a b) = toOf a ∧ toOf (ledX a b) = toOf (ledY a b) := by
  obtain ⟨j, hl⟩ := J2 ha hb hf
  have g := raw_sums 100000 j (by omega)
  have x := (rawX_ok j hl).1
  have y := (rawY_ok j hl).1
  unfold ledX ledY
  rw [from_nrm (oks_kinds x), from_nrm (oks_kinds y), to_nrm (oks_kinds x), to_nrm (oks_kinds y), ← mid_from x, ← mid_from y, ← mid_to x, ← mid_to y, ← mid_to j.oa, ← mid_to j.ob]
  exact g
theorem ledY_norm {a b : List DPart} (h : (led a b).2.2 = true) : isNorm (ledY a b) = true := by
  have g := led_get h
  obtain ⟨j, hl⟩ := J2 g.1 g.2.1 g.2.2.1
  have y := (rawY_ok j hl).1
  unfold isNorm
  rw [g.2.2.2.2.1]
  have : ledY a b = nrm (ledY a b) := by unfold ledY; exact (nrm_nrm (oks_kinds y)).symm
  rw [decide_eq_true this]; rfl

def shR : List (List DPart) → List DPart → Option (List (List DPart))
  | [], _ => some []
  | o :: r, v => if (led v o).2.2 then (shR r (led v o).1).map fun z => (led v o).2.1 :: z else none
theorem drop_set {T : Type} {l : List T} {k : Nat} {y : T} (h : k < l.length) : (l.set k y).drop k = y :: l.drop (k + 1) := by
  rw [List.drop_eq_getElem_cons (by simpa using h)]
  simp [List.drop_set]
theorem sh_loop {f : List DPart × Int × List (List DPart) → Option (Lr (List DPart × Int × List (List DPart)) (Sum (List (List DPart)) Unit))} (l : List (List DPart)) (hl : l.length ≤ 1099511627776)
    (hf : ∀ v (i : Int) b, i < l.length → b.length = l.length → f (v, i, b) = if 0 ≤ i then (if (led v (el l i.toNat)).2.2 then some (.go ((led v (el l i.toNat)).1, i - 1, b.set i.toNat (led v (el l i.toNat)).2.1)) else some (.out (Sum.inr ()))) else some (.out (Sum.inl b)))
    (v : List DPart) (b : List (List DPart)) (hb : b.length = l.length) : iter f (v, (l.length : Int) - 1, b) = some (match shR l.reverse v with | some z => Sum.inl z.reverse | none => Sum.inr ()) := by
  have key := iter_go (f := f) (fun s => -1 ≤ s.2.1 ∧ s.2.1 < l.length ∧ s.2.2.length = l.length) (fun s => (s.2.1 + 1).toNat) (fun s => match shR (l.take (s.2.1 + 1).toNat).reverse s.1 with | some z => Sum.inl (z.reverse ++ s.2.2.drop (s.2.1 + 1).toNat) | none => Sum.inr ()) (fun s hP => by
    obtain ⟨v, i, b⟩ := s
    obtain ⟨h1, h2, h3⟩ := hP
    dsimp only at h1 h2 h3 ⊢
    rw [hf v i b h2 h3]
    by_cases h0 : 0 ≤ i
    · obtain ⟨k, rfl⟩ := Int.eq_ofNat_of_zero_le h0
      have hk : k < l.length := by omega
      rw [if_pos h0, show ((k : Int) + 1).toNat = k + 1 by omega, take_rev hk, Int.toNat_natCast, shR]
      cases hd : (led v (el l k)).2.2 with
      | false => exact .inr (by simp)
      | true =>
        refine .inl ⟨((led v (el l k)).1, (k : Int) - 1, b.set k (led v (el l k)).2.1), by simp only [if_true], ⟨by dsimp only; omega, by dsimp only; omega, by dsimp only; rw [List.length_set]; exact h3⟩, by dsimp only; omega, ?_⟩
        dsimp only
        rw [if_pos rfl, show ((k : Int) - 1 + 1).toNat = k by omega, drop_set (by omega)]
        cases shR (l.take k).reverse (led v (el l k)).1 with
        | none => rfl
        | some z => simp
    · refine .inr ?_
      rw [if_neg h0, show (i + 1).toNat = 0 by omega]
      simp [shR]) (v, (l.length : Int) - 1, b) ⟨by dsimp only; omega, by dsimp only; omega, hb⟩
  rw [key]
  dsimp only
  rw [show ((l.length : Int) - 1 + 1).toNat = l.length by omega, List.take_length, List.drop_eq_nil_of_le (by omega)]
  cases shR l.reverse v <;> simp
def shf (l : List (List DPart)) (v : List DPart) : List (List DPart) × Bool := match shR l.reverse v with | some z => (z.reverse, true) | none => ([], false)
theorem i_shifted (l : List (List DPart)) (v : List DPart) (hl : l.length ≤ 1099511627776) : x_impl_shifted l v = some (shf l v) := by
  unfold x_impl_shifted shf
  rw [xg_of ⟨by omega, by omega⟩, xg_I (by omega) (by omega), sh_loop l hl (fun v i b h1 h2 => by
    unfold x_impl_shifted_f0 x_impl_shifted_b0
    dsimp only
    by_cases h0 : 0 ≤ i
    · rw [cd_t h0, if_pos h0, xg_of ⟨h0, h1⟩, i_Transform, Option.bind_some, cd_n]
      cases (led v (el l i.toNat)).2.2 with
      | false => rfl
      | true => rw [cd_T, xg_of ⟨h0, by omega⟩, xg_I (by omega) (by omega)]; rfl
    · rw [cd_f h0, if_neg h0]) v _ (by simp), Option.bind_some]
  cases shR l.reverse v <;> rfl
theorem s_shifted (l : List (List DPart)) (v : List DPart) (h : smL (smL smDPart) l) : x_spec_l24Past l v = some (shf l v) := by
  have hl := h.1
  unfold x_spec_l24Past shf
  rw [s_copyOps h, Option.bind_some, xg_I (by omega) (by omega), sh_loop l hl (fun v i b h1 h2 => by
    unfold x_spec_l24Past_f0 x_spec_l24Past_b0
    dsimp only
    by_cases h0 : 0 ≤ i
    · rw [cd_t h0, if_pos h0, xg_of ⟨h0, h1⟩, s_Transform, Option.bind_some, cd_n]
      cases (led v (el l i.toNat)).2.2 with
      | false => rfl
      | true => rw [cd_T, xg_of ⟨h0, by omega⟩, xg_I (by omega) (by omega)]; rfl
    · rw [cd_f h0, if_neg h0]) v _ rfl, Option.bind_some]
  cases shR l.reverse v <;> rfl
theorem shR_stk : ∀ (l : List (List DPart)) (v : List DPart) (z : List (List DPart)), stk l (fromOf v) = true → shR l v = some z → stk z (toOf v) = true ∧ z.length = l.length
  | [], v, z, _, hz => by cases hz; exact ⟨rfl, rfl⟩
  | o :: r, v, z, h, hz => by
    unfold shR at hz
    split at hz
    · rename_i hd
      have g := led_get hd
      have gs := led_sums g.1 g.2.1 g.2.2.1
      rw [g.2.2.2.2.2] at hz
      dsimp only at hz
      cases hr : shR r (ledX v o) with
      | none => rw [hr] at hz; cases hz
      | some y =>
        rw [hr] at hz
        simp only [Option.map_some, Option.some.injEq] at hz
        subst hz
        unfold stk at h ⊢
        simp only [Bool.and_eq_true, decide_eq_true_eq] at h
        have ih := shR_stk r (ledX v o) y (by rw [gs.1]; exact h.2) hr
        rw [ledY_norm hd, gs.2.1, ← gs.2.2]
        exact ⟨by simp [ih.1], by simp [ih.2]⟩
    · cases hz
def pastOther (p : DStory) (o : List DPart) : DStory × Bool := if ((okStory p = true ∧ okOp o = true) ∧ fromOf o = p.n) ∧ ((shf p.undo o).2 = true ∧ (shf p.redo o).2 = true) then (⟨toOf o, (shf p.undo o).1, (shf p.redo o).1⟩, true) else (⟨0, [], []⟩, false)
theorem shf_ok {l : List (List DPart)} {v : List DPart} (h : stk l.reverse (fromOf v) = true) (hs : (shf l v).2 = true) : stk (shf l v).1.reverse (toOf v) = true ∧ (shf l v).1.length = l.length := by
  unfold shf at hs ⊢
  cases hr : shR l.reverse v with
  | none => rw [hr] at hs; cases hs
  | some z =>
    have g := shR_stk _ _ _ h hr
    dsimp only
    rw [List.reverse_reverse, List.length_reverse]
    exact ⟨g.1, by rw [g.2]; simp⟩
theorem other_ok {p : DStory} {o : List DPart} (h : okStory p = true) (ho : okOp o = true) (hf : fromOf o = p.n) (h1 : (shf p.undo o).2 = true) (h2 : (shf p.redo o).2 = true) : okStory ⟨toOf o, (shf p.undo o).1, (shf p.redo o).1⟩ = true := by
  have g := okStory_get h
  have a := shf_ok (l := p.undo) (v := o) (by rw [hf]; exact g.2.2.2.1) h1
  have b := shf_ok (l := p.redo) (v := o) (by rw [hf]; exact g.2.2.2.2) h2
  have s := okOp_sums ho
  have s2 := okOp_all ho
  have e := sum_to o
  unfold okStory okStack
  simp only [Bool.and_eq_true, decide_eq_true_eq]
  exact ⟨⟨by omega, by omega, a.1⟩, by omega, b.1⟩
theorem i_PastOther (p : DStory) (o : List DPart) (h : smDStory p) : x_impl_PastOther p o = some (pastOther p o) := by
  have h1 := h.2.1.1
  have h2 := h.2.2.1
  unfold x_impl_PastOther pastOther
  simp only [i_PastOk p h, i_OpOk, i_OpFrom, i_OpTo, i_shifted _ _ h1, i_shifted _ _ h2, Option.bind_some]
  cases hp : okStory p with
  | false => simp
  | true =>
    cases ho : okOp o with
    | false => simp
    | true =>
      simp only [okOp_parts ho, if_true, Bool.not_true, cd_F, Option.bind_some]
      by_cases hf : fromOf o = p.n
      · rw [decide_eq_true hf]
        cases (shf p.undo o).2 <;> cases (shf p.redo o).2 <;> simp [hf]
      · rw [decide_eq_false hf]; simp [hf]
theorem s_PastOther (p : DStory) (o : List DPart) (h : smDStory p) : x_spec_PastOther p o = some (pastOther p o) := by
  have hb : ∀ (q : DStory), okStory q = true → x_spec_PastOk q = some true := fun q hq => by
    have g := okStory_get hq
    unfold x_spec_PastOk
    rw [s_In, Option.bind_some, s_stackOk _ _ (by omega), s_stackOk _ _ (by omega)]
    unfold okStack
    rw [decide_eq_true g.1, g.2.2.2.1, g.2.2.2.2, decide_eq_true g.2.1, decide_eq_true g.2.2.1]; rfl
  unfold x_spec_PastOther pastOther
  simp only [s_PastOk p h, s_OpOk, s_OpFrom, s_OpTo, s_shifted _ _ h.2.1, s_shifted _ _ h.2.2, Option.bind_some]
  cases hp : okStory p with
  | false => simp
  | true =>
    cases ho : okOp o with
    | false => simp
    | true =>
      simp only [okOp_parts ho, if_true, Bool.not_true, cd_F, Option.bind_some]
      by_cases hf : fromOf o = p.n
      · rw [decide_eq_true hf]
        cases h1 : (shf p.undo o).2 with
        | false => simp
        | true =>
          cases h2 : (shf p.redo o).2 with
          | false => simp
          | true =>
            simp only [Bool.not_true, cd_F, Option.bind_some, hb _ (other_ok hp ho hf h1 h2)]
            simp [hf]
      · rw [decide_eq_false hf]; simp [hf]
theorem shR_sz : ∀ (l : List (List DPart)) (v : List DPart) (z : List (List DPart)), shR l v = some z → lenL (lenL szDPart) z ≤ 801 * l.length
  | [], v, z, hz => by cases hz; simp [lenL, sumL]
  | o :: r, v, z, hz => by
    unfold shR at hz
    split at hz
    · rename_i hd
      have g := led_get hd
      rw [g.2.2.2.2.2] at hz
      dsimp only at hz
      cases hr : shR r (ledX v o) with
      | none => rw [hr] at hz; cases hz
      | some y =>
        rw [hr] at hz
        simp only [Option.map_some, Option.some.injEq] at hz
        subst hz
        have ih := shR_sz r _ y hr
        have s := okOp_sz g.2.2.2.2.1
        have ih' : y.length + sumL (lenL szDPart) y ≤ 801 * r.length := ih
        show (ledY v o :: y).length + sumL (lenL szDPart) (ledY v o :: y) ≤ 801 * (o :: r).length
        simp only [List.length_cons, sumL]
        omega
    · cases hz
theorem lenL_rev {T : Type} (c : T → Nat) : ∀ l : List T, sumL c l.reverse = sumL c l
  | [] => rfl
  | x :: l => by rw [List.reverse_cons, sumL_app, lenL_rev c l]; simp only [sumL]; omega
theorem shf_sz (l : List (List DPart)) (v : List DPart) : lenL (lenL szDPart) (shf l v).1 ≤ 801 * l.length := by
  unfold shf
  cases h : shR l.reverse v with
  | none => simp [lenL, sumL]
  | some z =>
    have h2 : z.length + sumL (lenL szDPart) z ≤ 801 * l.reverse.length := shR_sz _ _ _ h
    show z.reverse.length + sumL (lenL szDPart) z.reverse ≤ 801 * l.length
    rw [lenL_rev, List.length_reverse]
    rw [List.length_reverse] at h2
    exact h2
theorem ex_FnExactPastOther (p : DStory) (o : List DPart) (_ : wfDStory p) (_ : wfL wfDPart o) (h : szDStory p ≤ 1048576) (_ : lenL szDPart o ≤ 1048576) : ∃ r, x_spec_PastOther p o = some r ∧ x_impl_PastOther p o = some r ∧ szDStory r.1 ≤ 1000000000 := by
  have hs := smz_DStory p (by omega)
  refine ⟨_, s_PastOther p o hs, i_PastOther p o hs, ?_⟩
  unfold pastOther
  split
  · have a := shf_sz p.undo o
    have b := shf_sz p.redo o
    have c : p.undo.length ≤ lenL (lenL szDPart) p.undo := by unfold lenL; omega
    have d : p.redo.length ≤ lenL (lenL szDPart) p.redo := by unfold lenL; omega
    unfold szDStory at h ⊢
    dsimp only
    omega
  · simp [szDStory, lenL, sumL]
end Go.Proofs.Ythfkcpdechjmnaa
