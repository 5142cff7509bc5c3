/- Stories: what stands after each step, taking back and again, and changes of others. No condition. -/
import Derived.Test.YthfkcpdechjmnaaM7
import Derived.Test.YthfkcpdechjmnaaM8
import Derived.Test.YthfkcpdechjmnaaM9
namespace Go.Proofs.Ythfkcpdechjmnaa

theorem stk_mem : ∀ {l : List (List DPart)} {n : Int}, stk l n = true → ∀ o ∈ l, isNorm o = true
  | [], _, _, _, h => by cases h
  | x :: r, n, h, o, ho => by
    unfold stk at h
    simp only [Bool.and_eq_true, decide_eq_true_eq] at h
    rcases List.mem_cons.1 ho with rfl | ho
    · exact h.1.1
    · exact stk_mem h.2 o ho
theorem stk_take : ∀ {l : List (List DPart)} {n : Int} (k : Nat), stk l n = true → stk (l.take k) n = true
  | [], _, _, _ => by simp [stk]
  | x :: r, n, 0, _ => by simp [stk]
  | x :: r, n, k + 1, h => by
    unfold stk at h
    simp only [Bool.and_eq_true] at h
    rw [List.take_succ_cons, stk, stk_take k h.2, h.1.1, h.1.2]; rfl
theorem sm_story {p : DStory} (h : okStory p = true) : smDStory p := by
  obtain ⟨h1, h2, h3, h4, h5⟩ := okStory_get h
  refine ⟨trivial, ⟨by omega, fun x hx => sm_op (isNorm_ok (stk_mem h4 x (List.mem_reverse.2 hx))).1⟩, ⟨by omega, fun x hx => sm_op (isNorm_ok (stk_mem h5 x (List.mem_reverse.2 hx))).1⟩⟩
theorem push_stk {l : List (List DPart)} {x : List DPart} {n : Int} (hl : l.length ≤ 8) (h : stk l.reverse n = true) (hx : isNorm x = true) (ht : toOf x = n) : stk (push l x).reverse (fromOf x) = true ∧ (push l x).length ≤ 8 := by
  have e : stk (l ++ [x]).reverse (fromOf x) = true := by
    rw [List.reverse_append, List.reverse_singleton, List.singleton_append, stk, hx, ht, h]; simp
  unfold push
  split
  · rename_i hc
    rw [List.reverse_drop]
    refine ⟨stk_take _ e, ?_⟩
    rw [List.length_drop]; simp; omega
  · exact ⟨e, by omega⟩
theorem push_mem {l : List (List DPart)} {x o : List DPart} (h : o ∈ push l x) : o ∈ l ∨ o = x := by
  unfold push at h
  have : o ∈ l ++ [x] := by
    split at h
    · exact List.mem_of_mem_drop h
    · exact h
  simpa using this

theorem push_last (l : List (List DPart)) (x : List DPart) : 0 < (push l x).length ∧ lastOp (push l x) = x := by
  have h0 : 0 < (push l x).length := by
    unfold push
    split
    · rw [List.length_drop]; omega
    · simp
  refine ⟨h0, ?_⟩
  have e : (push l x).getLast? = some x := by
    unfold push
    split
    · rename_i hc
      rw [List.getLast?_drop, if_neg (by omega)]; simp
    · simp
  unfold lastOp
  rw [el_eq (by omega)]
  rw [List.getLast?_eq_getElem?, List.getElem?_eq_getElem (by omega)] at e
  exact Option.some.inj e
structure Sto (B : Int) (p : DStory) (t : List Int) : Prop where
  ok : okStory p = true
  tx : okText t = true
  ln : (t.length : Int) = p.n
  bd : (t.length : Int) ≤ B
  un : ∀ o ∈ p.undo, toOf o ≤ B
  re : ∀ o ∈ p.redo, toOf o ≤ B
theorem Sto.swap {B : Int} {p : DStory} {t : List Int} (h : Sto B p t) : Sto B (swapS p) t := by
  have g := okStory_get h.ok
  refine ⟨?_, h.tx, h.ln, h.bd, h.re, h.un⟩
  unfold okStory okStack swapS
  simp only [Bool.and_eq_true, decide_eq_true_eq]
  exact ⟨⟨g.1, g.2.2.1, g.2.2.2.2⟩, g.2.1, g.2.2.2.1⟩
theorem Sto.up {B C : Int} {p : DStory} {t : List Int} (h : Sto B p t) (k : B ≤ C) : Sto C p t := ⟨h.ok, h.tx, h.ln, by have := h.bd; omega, fun o ho => by have := h.un o ho; omega, fun o ho => by have := h.re o ho; omega⟩
theorem story_ok {n : Int} {a b : List (List DPart)} (h : 0 ≤ n ∧ n ≤ 200) (ha : a.length ≤ 8) (hb : b.length ≤ 8) (sa : stk a.reverse n = true) (sb : stk b.reverse n = true) : okStory ⟨n, a, b⟩ = true := by
  unfold okStory okStack
  simp only [Bool.and_eq_true, decide_eq_true_eq]
  exact ⟨⟨h, ha, sa⟩, hb, sb⟩

theorem st_do {B C : Int} {p : DStory} {t : List Int} {o : List DPart} (h : Sto B p t) (ho : okOp o = true) (hf : fromOf o = t.length) (hB : B ≤ C) (hC : toOf o ≤ C) :
    pastDo p o t = (⟨toOf o, push p.undo (inv o t).1, []⟩, true) ∧ Sto C ⟨toOf o, push p.undo (inv o t).1, []⟩ (appl o t) ∧ fits o t = true := by
  have hfit : fits o t = true := by unfold fits; rw [ho, h.tx, hf]; simp
  obtain ⟨i1, i2, i3, i4, i5⟩ := inv_facts hfit
  obtain ⟨a1, a2⟩ := appl_ok hfit
  have g := okStory_get h.ok
  have ps := push_stk g.2.1 g.2.2.2.1 i2 (by rw [i4, hf]; exact h.ln)
  rw [i3] at ps
  have hto := okOp_to ho
  refine ⟨?_, ⟨story_ok hto ps.2 (by simp) ps.1 rfl, a1, a2, by omega, fun x hx => ?_, fun x hx => (by cases hx)⟩, hfit⟩
  · unfold pastDo; rw [if_pos ⟨⟨h.ok, h.ln⟩, hfit⟩]
  · rcases push_mem hx with hx | rfl
    · have := h.un x hx; omega
    · have := h.bd; omega

theorem lastOp_mem {l : List (List DPart)} (h : 0 < l.length) : lastOp l ∈ l := el_mem (by omega)
theorem st_undo {B : Int} {p : DStory} {t : List Int} (h : Sto B p t) (hu : 0 < p.undo.length) :
    pastUndo p t = (⟨toOf (lastOp p.undo), p.undo.take (p.undo.length - 1), push p.redo (inv (lastOp p.undo) t).1⟩, lastOp p.undo, true) ∧ Sto B ⟨toOf (lastOp p.undo), p.undo.take (p.undo.length - 1), push p.redo (inv (lastOp p.undo) t).1⟩ (appl (lastOp p.undo) t) ∧ fits (lastOp p.undo) t = true := by
  have g := okStory_get h.ok
  obtain ⟨l1, l2⟩ := stk_last g.2.2.2.1 hu
  obtain ⟨l3, l4⟩ := isNorm_ok l1
  have hfit : fits (lastOp p.undo) t = true := by unfold fits; rw [l3, h.tx, l2, h.ln]; simp
  obtain ⟨i1, i2, i3, i4, i5⟩ := inv_facts hfit
  obtain ⟨a1, a2⟩ := appl_ok hfit
  have ps := push_stk g.2.2.1 g.2.2.2.2 i2 (by rw [i4, l2])
  rw [i3] at ps
  have hto := okOp_to l3
  have e := take_rev (l := p.undo) (i := p.undo.length - 1) (by omega)
  rw [show p.undo.length - 1 + 1 = p.undo.length by omega, List.take_length] at e
  have hs := g.2.2.2.1
  rw [e, stk] at hs
  simp only [Bool.and_eq_true] at hs
  have hl := h.un _ (lastOp_mem hu)
  refine ⟨?_, ⟨story_ok hto (by rw [List.length_take]; omega) ps.2 hs.2 ps.1, a1, a2, by omega, fun x hx => h.un x (List.mem_of_mem_take hx), fun x hx => ?_⟩, hfit⟩
  · unfold pastUndo; rw [if_pos ⟨⟨⟨h.ok, h.tx⟩, h.ln⟩, hu⟩]
  · rcases push_mem hx with hx | rfl
    · exact h.re x hx
    · have := h.bd; have := h.ln; omega
theorem st_redo {B : Int} {p : DStory} {t : List Int} (h : Sto B p t) (hu : 0 < p.redo.length) :
    pastRedo p t = (⟨toOf (lastOp p.redo), push p.undo (inv (lastOp p.redo) t).1, p.redo.take (p.redo.length - 1)⟩, lastOp p.redo, true) ∧ Sto B ⟨toOf (lastOp p.redo), push p.undo (inv (lastOp p.redo) t).1, p.redo.take (p.redo.length - 1)⟩ (appl (lastOp p.redo) t) ∧ fits (lastOp p.redo) t = true := by
  have g := st_undo (p := swapS p) h.swap hu
  refine ⟨?_, ?_, g.2.2⟩
  · unfold pastRedo; rw [g.1]; rfl
  · exact g.2.1.swap

theorem shR_yes : ∀ (l : List (List DPart)) (v : List DPart) (B : Int), okOp v = true → stk l (fromOf v) = true → (∀ o ∈ l, toOf o ≤ B) → B + putsOf v ≤ 200 → ∃ z, shR l v = some z
  | [], v, _, _, _, _, _ => ⟨[], rfl⟩
  | o :: r, v, B, hv, hs, hb, hB => by
    unfold stk at hs
    simp only [Bool.and_eq_true, decide_eq_true_eq] at hs
    obtain ⟨o1, o2⟩ := isNorm_ok hs.1.1
    have hbo := hb o (by simp)
    obtain ⟨e, x1, y1⟩ := led_yes hv o1 hs.1.2.symm (by omega)
    have m := led_more hv o1 hs.1.2.symm
    have s := led_sums hv o1 hs.1.2.symm
    obtain ⟨z, hz⟩ := shR_yes r (ledX v o) B x1 (by rw [s.1]; exact hs.2) (fun q hq => hb q (by simp [hq])) (by omega)
    unfold shR
    rw [e]
    simp only [if_true]
    rw [hz]
    exact ⟨_, rfl⟩
theorem shR_bd : ∀ (l : List (List DPart)) (v z : List (DPart)) (w : List (List DPart)) (B : Int), stk l (fromOf v) = true → shR l v = some w → (∀ o ∈ l, toOf o ≤ B) → z ∈ w → toOf z ≤ B + putsOf v
  | [], v, z, w, B, _, h, _, hz => by cases h; cases hz
  | o :: r, v, z, w, B, hs, h, hb, hz => by
    unfold shR at h
    split at h
    · rename_i hd
      have g := led_get hd
      have s := led_sums g.1 g.2.1 g.2.2.1
      have m := led_more g.1 g.2.1 g.2.2.1
      rw [g.2.2.2.2.2] at h
      dsimp only at h
      cases hr : shR r (ledX v o) with
      | none => rw [hr] at h; cases h
      | some y =>
        rw [hr] at h
        simp only [Option.map_some, Option.some.injEq] at h
        subst h
        unfold stk at hs
        simp only [Bool.and_eq_true, decide_eq_true_eq] at hs
        rcases List.mem_cons.1 hz with rfl | hz
        · have hbo := hb o (by simp)
          have e1 := sum_from (ledX v o)
          have e2 := sum_to (ledX v o)
          have d1 : 0 ≤ dropsOf (ledX v o) := (okOp_all g.2.2.2.1).2.2.2.1
          omega
        · have := shR_bd r (ledX v o) z y B (by rw [s.1]; exact hs.2) hr (fun q hq => hb q (by simp [hq])) hz
          omega
    · cases h
theorem shf_get {l : List (List DPart)} {v : List DPart} (h : (shf l v).2 = true) : ∃ z, shR l.reverse v = some z ∧ shf l v = (z.reverse, true) := by
  unfold shf at h ⊢
  cases hr : shR l.reverse v with
  | none => rw [hr] at h; cases h
  | some z => exact ⟨z, rfl, rfl⟩
theorem shf_yes {l : List (List DPart)} {v : List DPart} {B : Int} (hv : okOp v = true) (hs : stk l.reverse (fromOf v) = true) (hb : ∀ o ∈ l, toOf o ≤ B) (hB : B + putsOf v ≤ 200) : (shf l v).2 = true := by
  obtain ⟨z, hz⟩ := shR_yes l.reverse v B hv hs (fun o ho => hb o (List.mem_reverse.1 ho)) hB
  unfold shf; rw [hz]
theorem shf_bd {l : List (List DPart)} {v : List DPart} {B : Int} (hs : stk l.reverse (fromOf v) = true) (h : (shf l v).2 = true) (hb : ∀ o ∈ l, toOf o ≤ B) : ∀ o ∈ (shf l v).1, toOf o ≤ B + putsOf v := fun o ho => by
  obtain ⟨z, h1, h2⟩ := shf_get h
  rw [h2] at ho
  exact shR_bd l.reverse v o z B hs h1 (fun o ho => hb o (List.mem_reverse.1 ho)) (List.mem_reverse.1 ho)

theorem st_other {B : Int} {p : DStory} {t : List Int} {o : List DPart} (h : Sto B p t) (ho : okOp o = true) (hf : fromOf o = t.length) (hk : (pastOther p o).2 = true) :
    Sto (B + putsOf o) (pastOther p o).1 (appl o t) ∧ fits o t = true ∧ (pastOther p o).1.undo = (shf p.undo o).1 ∧ (shf p.undo o).2 = true := by
  have hfit : fits o t = true := by unfold fits; rw [ho, h.tx, hf]; simp
  obtain ⟨a1, a2⟩ := appl_ok hfit
  have g := okStory_get h.ok
  unfold pastOther at hk ⊢
  split at hk
  · rename_i hc
    rw [if_pos hc]
    refine ⟨⟨other_ok h.ok ho hc.1.2 hc.2.1 hc.2.2, a1, a2, ?_, ?_, ?_⟩, hfit, rfl, hc.2.1⟩
    · have e1 := sum_from o
      have e2 := sum_to o
      have d1 : 0 ≤ dropsOf o := (okOp_all ho).2.2.2.1
      have := h.bd
      omega
    · exact shf_bd (by rw [hc.1.2]; exact g.2.2.2.1) hc.2.1 h.un
    · exact shf_bd (by rw [hc.1.2]; exact g.2.2.2.2) hc.2.2 h.re
  · cases hk
theorem other_yes {B : Int} {p : DStory} {t : List Int} {o : List DPart} (h : Sto B p t) (ho : okOp o = true) (hf : fromOf o = t.length) (hB : B + putsOf o ≤ 200) : (pastOther p o).2 = true := by
  have g := okStory_get h.ok
  have e : fromOf o = p.n := by rw [hf]; exact h.ln
  unfold pastOther
  rw [if_pos ⟨⟨⟨h.ok, ho⟩, e⟩, shf_yes ho (by rw [e]; exact g.2.2.2.1) h.un hB, shf_yes ho (by rw [e]; exact g.2.2.2.2) h.re hB⟩]

theorem s_PastNew (n : Int) (h : 0 ≤ n ∧ n ≤ 200) : x_spec_PastNew n = some (⟨n, [], []⟩, true) := by
  unfold x_spec_PastNew
  rw [s_In, decide_eq_true h]; rfl
def StI (s : List Int × Int × List UInt8 × Int × Int × Int × List (List DPart) × List (List DPart)) : Prop := cur ⟨s.2.2.1, s.2.2.2.1, s.2.2.2.2.1⟩ ∧ (0 ≤ s.2.1 ∧ s.2.1 ≤ 9) ∧ Sto (114 - 12 * s.2.1) ⟨s.2.2.2.2.2.1, s.2.2.2.2.2.2.1, s.2.2.2.2.2.2.2⟩ s.1
def StO (y : List Int × List UInt8 × Int × Int × Int × List (List DPart) × List (List DPart)) : Prop := cur ⟨y.2.1, y.2.2.1, y.2.2.2.1⟩ ∧ Sto 114 ⟨y.2.2.2.2.1, y.2.2.2.2.2.1, y.2.2.2.2.2.2⟩ y.1
theorem undo_no {p : DStory} {t : List Int} (h : ¬ 0 < p.undo.length) : (pastUndo p t).2.2 = false := by
  unfold pastUndo; rw [if_neg (fun k => h k.2)]
theorem s_Story (c : DL01Cur) (h : cur c) : ∃ p t d, x_spec_l24Draw c 9 = some (p, t, d) ∧ Sto 114 p t ∧ cur d := by
  unfold x_spec_l24Draw
  obtain ⟨t, d, k1, k2, k3, k4⟩ := s_Signs c 6 h (by omega) (by omega)
  obtain ⟨m, e, b1, b2, b3⟩ := s_Below d (9 + 1) k4
  rw [k1, Option.bind_some]
  simp only
  rw [s_PastNew _ (by omega), Option.bind_some, xg_I (by omega) (by omega), b1, Option.bind_some]
  simp only
  have s0 : Sto 6 ⟨t.length, [], []⟩ t := ⟨story_ok (by omega) (by simp) (by simp) rfl rfl, drawn_text (by omega) k3, rfl, by omega, fun _ h => (by cases h), fun _ h => (by cases h)⟩
  obtain ⟨y, g1, g2⟩ := iter_ex (f := x_spec_l24Draw_f0) StI (fun s => s.2.1.toNat) StO (fun s hP => by
    obtain ⟨t, k, b, i, j, n, u, r⟩ := s
    obtain ⟨p1, p2, p3⟩ := hP
    simp only at p1 p2 p3 ⊢
    unfold x_spec_l24Draw_f0 x_spec_l24Draw_b0
    simp only
    by_cases hk : 0 < k
    · refine .inl ?_
      obtain ⟨m, e, r1, r2, r3⟩ := s_Below ⟨b, i, j⟩ 5 p1
      rw [cd_t hk, r1, Option.bind_some]
      simp only
      have sm := sm_story p3.ok
      have gl := okStory_get p3.ok
      have hb := p3.bd
      by_cases m0 : m = 0
      · rw [cd_t m0, s_PastUndo _ _ sm (by simp only at gl ⊢; omega), Option.bind_some]
        by_cases hu : 0 < u.length
        · obtain ⟨v1, v2, v3⟩ := st_undo p3 hu
          rw [v1]
          simp only [cd_T]
          rw [s_Apply, if_pos v3, Option.bind_some, xg_I (by omega) (by omega)]
          exact ⟨_, rfl, ⟨r3, ⟨by simp only; omega, by simp only; omega⟩, v2.up (by simp only; omega)⟩, by simp only; omega⟩
        · rw [undo_no hu, cd_F, xg_I (by omega) (by omega)]
          exact ⟨_, rfl, ⟨r3, ⟨by simp only; omega, by simp only; omega⟩, p3.up (by simp only; omega)⟩, by simp only; omega⟩
      rw [cd_f m0]
      by_cases m1 : m = 1
      · rw [cd_t m1, s_PastRedo _ _ sm (by simp only at gl ⊢; omega), Option.bind_some]
        by_cases hu : 0 < r.length
        · obtain ⟨v1, v2, v3⟩ := st_redo p3 hu
          rw [v1]
          simp only [cd_T]
          rw [s_Apply, if_pos v3, Option.bind_some, xg_I (by omega) (by omega)]
          exact ⟨_, rfl, ⟨r3, ⟨by simp only; omega, by simp only; omega⟩, v2.up (by simp only; omega)⟩, by simp only; omega⟩
        · have e : (pastRedo ⟨n, u, r⟩ t).2.2 = false := by unfold pastRedo; exact undo_no hu
          rw [e, cd_F, xg_I (by omega) (by omega)]
          exact ⟨_, rfl, ⟨r3, ⟨by simp only; omega, by simp only; omega⟩, p3.up (by simp only; omega)⟩, by simp only; omega⟩
      rw [cd_f m1]
      obtain ⟨o, d, d1, d2, d3, d4, d5, d6⟩ := s_Draw e t.length r3 (by omega) (by omega)
      rw [d1, Option.bind_some]
      simp only
      by_cases m2 : m = 2
      · rw [cd_t m2, s_PastOther _ _ sm, Option.bind_some]
        cases ho : (pastOther ⟨n, u, r⟩ o).2 with
        | true =>
          obtain ⟨v1, v2, _⟩ := st_other p3 d2 d3 ho
          rw [cd_T, s_Apply, if_pos v2, Option.bind_some, xg_I (by omega) (by omega)]
          exact ⟨_, rfl, ⟨d6, ⟨by simp only; omega, by simp only; omega⟩, v1.up (by simp only; omega)⟩, by simp only; omega⟩
        | false =>
          rw [cd_F, xg_I (by omega) (by omega)]
          exact ⟨_, rfl, ⟨d6, ⟨by simp only; omega, by simp only; omega⟩, p3.up (by simp only; omega)⟩, by simp only; omega⟩
      · obtain ⟨v1, v2, v3⟩ := st_do (C := 114 - 12 * (k - 1)) p3 d2 d3 (by omega) (by omega)
        rw [cd_f m2, Option.bind_some]
        simp only
        rw [s_PastDo _ _ _ sm, Option.bind_some, v1]
        simp only [cd_T]
        rw [s_Apply, if_pos v3, Option.bind_some, xg_I (by omega) (by omega)]
        exact ⟨_, rfl, ⟨d6, ⟨by simp only; omega, by simp only; omega⟩, v2⟩, by simp only; omega⟩
    · rw [cd_f hk]
      exact .inr ⟨_, rfl, p1, p3.up (by omega)⟩) (t, m, e.b, e.i, e.h, (t.length : Int), [], []) ⟨b3, ⟨b2.1, by simp only; omega⟩, s0.up (by simp only; omega)⟩
  rw [g1]
  exact ⟨_, _, _, rfl, g2.2, g2.1⟩
theorem s_MakeStory (code : List UInt8) (hl : code.length ≤ 1048580) : ∃ p t, x_spec_MakeStory code = some (p, t) ∧ Sto 114 p t := by
  unfold x_spec_MakeStory
  obtain ⟨c, h2, h3, _⟩ := s_New code hl
  obtain ⟨p, t, d, g1, g2, g3⟩ := s_Story c h3
  rw [h2, Option.bind_some, g1]
  exact ⟨_, _, rfl, g2⟩
end Go.Proofs.Ythfkcpdechjmnaa
