/- Changes at places of their own: either may be led past the other. No condition. -/
import Derived.Test.YthfkcpdechjmnaaM5
import Derived.Test.YthfkcpdechjmnaaMt
import Derived.Test.YthfkcpdechjmnaaM8
import Derived.Test.YthfkcpdechjmnaaMq
import Derived.Test.YthfkcpdechjmnaaLN
namespace Go.Proofs.Ythfkcpdechjmnaa

-- What is touched
def hit : List DPart → Nat → Nat → Prop
  | [], _, _ => False
  | q :: o, a, i => if q.kind = 1 then hit o (a + q.n.toNat) i else if q.kind = 2 then i = a ∨ hit o a i else (a ≤ i ∧ i < a + q.n.toNat) ∨ hit o (a + q.n.toNat) i
theorem hit1 {k n : Int} {s : List Int} (h : k = 1) (o : List DPart) (a i : Nat) : hit (⟨k, n, s⟩ :: o) a i ↔ hit o (a + n.toNat) i := by rw [hit, if_pos h]
theorem hit2 {k n : Int} {s : List Int} (h : k = 2) (o : List DPart) (a i : Nat) : hit (⟨k, n, s⟩ :: o) a i ↔ (i = a ∨ hit o a i) := by rw [hit, if_neg (by simp only; omega), if_pos h]
theorem hit3 {k n : Int} {s : List Int} (h : k = 3) (o : List DPart) (a i : Nat) : hit (⟨k, n, s⟩ :: o) a i ↔ ((a ≤ i ∧ i < a + n.toNat) ∨ hit o (a + n.toNat) i) := by rw [hit, if_neg (by simp only; omega), if_neg (by simp only; omega)]
theorem hit_skp : ∀ {l : List DPart}, oks l → ∀ (a i : Nat), hit (skp l) a i → hit l a i
  | [], _, _, _, h => h
  | p :: r, ho, a, i, h => by
    by_cases h0 : pSz p = 0
    · rw [skp_z h0] at h
      have g := hit_skp (oks_tl ho) a i h
      obtain ⟨k, m, s⟩ := p
      unfold pSz at h0
      simp only at h0
      rcases okPart_cases (oks_hd ho) with ⟨g1, g2, g3, g4⟩ | ⟨g1, g2, g3, g4⟩ | ⟨g1, g2, g3, g4⟩ <;> simp only at g1 g2 g3 g4
      · rw [hit1 g1, show m.toNat = 0 by omega]; exact g
      · rw [hit2 g1]; exact .inr g
      · rw [hit3 g1, show m.toNat = 0 by omega]; exact .inr g
    · rw [skp_n h0] at h; exact h
/-- What is left of a part touches no more. -/
theorem hit_rst {p : DPart} {n : Int} (h : okPart p = true) (h0 : 0 ≤ n) (h1 : n ≤ pSz p) (o : List DPart) (a i : Nat) : (p.kind = 2 → hit (pRst p n :: o) a i → hit (p :: o) a i) ∧ (p.kind ≠ 2 → hit (pRst p n :: o) (a + n.toNat) i → hit (p :: o) a i) := by
  obtain ⟨k, m, s⟩ := p
  unfold pSz pRst at *
  simp only at h1
  rcases okPart_cases h with ⟨g1, g2, g3, g4⟩ | ⟨g1, g2, g3, g4⟩ | ⟨g1, g2, g3, g4⟩ <;> simp only at g1 g2 g3 g4
  · subst g1 g4
    simp only [List.length_nil] at h1
    refine ⟨fun h => absurd h (by simp), fun _ h => ?_⟩
    rw [if_neg (by simp)] at h
    simp only at h
    rw [hit1 rfl, show a + n.toNat + (m - n).toNat = a + m.toNat by omega] at h
    rw [hit1 rfl]; exact h
  · subst g1
    refine ⟨fun _ h => ?_, fun h => absurd rfl h⟩
    rw [if_pos rfl, hit2 rfl] at h
    rw [hit2 rfl]; exact h
  · subst g1 g4
    simp only [List.length_nil] at h1
    refine ⟨fun h => absurd h (by simp), fun _ h => ?_⟩
    rw [if_neg (by simp)] at h
    simp only at h
    rw [hit3 rfl, show a + n.toNat + (m - n).toNat = a + m.toNat by omega] at h
    rw [hit3 rfl]
    rcases h with h | h
    · exact .inl ⟨by omega, by omega⟩
    · exact .inr h
theorem J.turn {a b : List DPart} (h : J 2 a b) : J 2 b a := ⟨h.ob, h.oa, h.lb, h.la, h.m.symm⟩
/-- Apart from one another, they may change their sides. -/
theorem tr_swap : ∀ (n : Nat) {a b : List DPart} (A : Nat), J 2 a b → szs a + szs b ≤ n → (∀ i, ¬ (hit a A i ∧ hit b A i)) → tr 2 b a = (tr 2 a b).map Prod.swap := by
  intro n
  induction n with
  | zero =>
    intro a b A h hz _
    have n1 := szs_nn h.oa
    have n2 := szs_nn h.ob
    have z1 := zero_skp h.oa (by omega)
    have z2 := zero_skp h.ob (by omega)
    rw [tr_E z1 z2, tr_E z2 z1]; rfl
  | succ n ih =>
    intro a b A h hz hno
    have hsA := fun i => hit_skp h.oa A i
    have hsB := fun i => hit_skp h.ob A i
    rcases tr_cases h with ⟨hA, hB, ht⟩ | ⟨p, r, hA, hk, ok, hl, g1, g2, ht⟩ | ⟨q, r, hB, hk, ok, hl, hA, g1, g2, ht⟩ | ⟨p, r, q, s, m, hA, hB, hk, hk2, okp, okq, hl, hl2, hn, h0, h1, h2, g1, g2, ht⟩ <;> rw [ht]
    · rw [tr_E hB hA]; rfl
    · have b1 := pSz_bd ok
      have hp := skp_cons hA
      have hj : J 2 b (p :: r) := by have := h.turn.skpR; rw [hA] at this; exact this
      rw [← tr_skR, hA, tr_R hj hp hk (fun q t hq hk2 => by
        refine hno A ⟨hsA A (by rw [hA, hit, if_neg (by omega), if_pos hk]; exact .inl rfl), hsB A (by rw [hq, hit, if_neg (by omega), if_pos hk2]; exact .inl rfl)⟩), ih A g1 (by omega) (fun i ⟨x, y⟩ => hno i ⟨hsA i (by rw [hA]; exact (hit_rst ok b1.1 (Int.le_refl _) r A i).1 hk x), y⟩)]
      rfl
    · have b1 := pSz_bd ok
      have hq := skp_cons hB
      have hj : J 2 (q :: r) a := by have := h.turn.skpL; rw [hB] at this; exact this
      rw [← tr_skL, hB, tr_L hj hq hk, ← tr_skR, ih A g1 (by omega) (fun i ⟨x, y⟩ => hno i ⟨hsA i x, hsB i (by rw [hB]; exact (hit_rst ok b1.1 (Int.le_refl _) r A i).1 hk y)⟩)]
      rfl
    · have hp := skp_cons hA
      have hq := skp_cons hB
      have hj : J 2 (q :: s) (p :: r) := by have := h.turn.skp; rw [hA, hB] at this; exact this
      have e := tr_B hj hq hp hk2 hk (n := m) (by omega)
      rw [← tr_sk, hA, hB]
      rw [e, ih (A + m.toNat) g1 (by omega) (fun i ⟨x, y⟩ => hno i ⟨hsA i (by rw [hA]; exact (hit_rst okp h0 h1 r A i).2 hk x), hsB i (by rw [hB]; exact (hit_rst okq h0 h2 s A i).2 hk2 y)⟩)]
      rfl
theorem emX_swap (e : Em) : emY e.swap = emX e := by
  obtain ⟨x, y⟩ := e
  cases x <;> cases y <;> rfl
theorem raw_swap {a b : List DPart} (h : tr 2 b a = (tr 2 a b).map Prod.swap) : rawY b a = rawX a b := by
  unfold rawX rawY
  rw [h]
  generalize tr 2 a b = l
  induction l with
  | nil => rfl
  | cons e l ih => simp only [List.map_cons, List.flatMap_cons, emX_swap, ih]

-- Touches and clashes
theorem el_put (l : List Int) (a i : Nat) (h : i < l.length) : el (l.set a 1) i = if i = a then 1 else el l i := by
  by_cases he : i = a
  · subst he; rw [if_pos rfl, el_set h]
  · rw [if_neg he, el_set_ne (fun k => he k.symm)]
theorem el_setR : ∀ (n : Nat) (l : List Int) (a i : Nat), i < l.length → el (setR l a n) i = if a ≤ i ∧ i < a + n then 1 else el l i
  | 0, l, a, i, _ => by rw [setR, if_neg (by omega)]
  | n + 1, l, a, i, h => by
    rw [setR, el_setR n _ _ _ (by simpa using h), el_put l a i h]
    by_cases h1 : a + 1 ≤ i ∧ i < a + 1 + n
    · rw [if_pos h1, if_pos (by omega)]
    · rw [if_neg h1]
      by_cases h2 : i = a
      · rw [if_pos h2, if_pos (by omega)]
      · rw [if_neg h2, if_neg (by omega)]
theorem el_touch : ∀ (o : List DPart) (a : Nat) (l : List Int) (i : Nat), i < l.length → (hit o a i → el (touchL o a l) i = 1) ∧ (el l i = 1 → el (touchL o a l) i = 1)
  | [], _, _, _, _ => ⟨fun h => h.elim, fun h => h⟩
  | q :: o, a, l, i, hi => by
    unfold touchL hit
    split
    · exact el_touch o _ l i hi
    · split
      · have g := el_touch o a (l.set a 1) i (by simpa using hi)
        refine ⟨fun h => ?_, fun h => g.2 ?_⟩
        · rcases h with h | h
          · exact g.2 (by rw [el_put l a i hi, if_pos h])
          · exact g.1 h
        · rw [el_put l a i hi]; split <;> first | rfl | exact h
      · have g := el_touch o (a + q.n.toNat) (setR l a q.n.toNat) i (by rw [setR_len]; exact hi)
        refine ⟨fun h => ?_, fun h => g.2 ?_⟩
        · rcases h with h | h
          · exact g.2 (by rw [el_setR _ l a i hi, if_pos h])
          · exact g.1 h
        · rw [el_setR _ l a i hi]; split <;> first | rfl | exact h
theorem dot_nn : ∀ (a b : List Int), bit a → bit b → 0 ≤ dot a b
  | [], _, _, _ => by simp [dot]
  | _ :: _, [], _, _ => by simp [dot]
  | x :: a, y :: b, ha, hb => by
    have g := dot_nn a b (fun z hz => ha z (by simp [hz])) (fun z hz => hb z (by simp [hz]))
    have hx := ha x (by simp)
    have hy := hb y (by simp)
    rw [dot]
    rcases hx with h | h <;> rcases hy with k | k <;> rw [h, k] <;> omega
theorem dot_z : ∀ (a b : List Int), bit a → bit b → dot a b = 0 → ∀ i, i < a.length → i < b.length → ¬ (el a i = 1 ∧ el b i = 1)
  | [], _, _, _, _, i, h, _ => by simp at h
  | _ :: _, [], _, _, _, i, _, h => by simp at h
  | x :: a, y :: b, ha, hb, hd, i, h1, h2 => by
    have hx := ha x (by simp)
    have hy := hb y (by simp)
    have ha' : bit a := fun z hz => ha z (by simp [hz])
    have hb' : bit b := fun z hz => hb z (by simp [hz])
    have g := dot_nn a b ha' hb'
    rw [dot] at hd
    have p : 0 ≤ x * y := by rcases hx with h | h <;> rcases hy with k | k <;> rw [h, k] <;> decide
    cases i with
    | zero =>
      rintro ⟨e1, e2⟩
      have e1' : x = 1 := e1
      have e2' : y = 1 := e2
      rw [e1', e2'] at hd
      omega
    | succ i => exact dot_z a b ha' hb' (by omega) i (by simpa using h1) (by simpa using h2)
theorem hit_lt : ∀ (o : List DPart) (a i : Nat), oks o → hit o a i → i ≤ a + (fromOf o).toNat
  | [], _, _, _, h => h.elim
  | q :: o, a, i, ho, h => by
    have f0 := from_ok (oks_tl ho)
    rw [from_cons]
    unfold pFrom pKeep pDrop
    unfold hit at h
    rcases okPart_cases (oks_hd ho) with ⟨k1, k2, k3, k4⟩ | ⟨k1, k2, k3, k4⟩ | ⟨k1, k2, k3, k4⟩
    · rw [if_pos k1] at h
      have := hit_lt o _ i (oks_tl ho) h
      simp [k1]; omega
    · rw [if_neg (by omega), if_pos k1] at h
      simp [k1]
      rcases h with h | h
      · omega
      · have := hit_lt o _ i (oks_tl ho) h; omega
    · rw [if_neg (by omega), if_neg (by omega)] at h
      simp [k1]
      rcases h with h | h
      · omega
      · have := hit_lt o _ i (oks_tl ho) h; omega
theorem apart_hit {a b : List DPart} (ha : okOp a = true) (hb : okOp b = true) (hna : nrm a = a) (hnb : nrm b = b) (hf : fromOf a = fromOf b) (h : clashes a b = 0) : ∀ i, ¬ (hit a 0 i ∧ hit b 0 i) := fun i ⟨h1, h2⟩ => by
  unfold clashes at h
  rw [ha, hb, decide_eq_true hf] at h
  simp only [Bool.and_self, if_true] at h
  have i1 := hit_lt a 0 i (okOp_oks ha).1 h1
  have i2 := hit_lt b 0 i (okOp_oks hb).1 h2
  have l1 := touches_len a
  have l2 := touches_len b
  rw [if_pos ha] at l1
  rw [if_pos hb] at l2
  refine dot_z _ _ (touches_bit a) (touches_bit b) h i (by omega) (by omega) ⟨?_, ?_⟩
  · unfold touches
    rw [if_pos ha, hna]
    exact (el_touch a 0 _ i (by simp; omega)).1 h1
  · unfold touches
    rw [if_pos hb, hnb]
    exact (el_touch b 0 _ i (by simp; omega)).1 h2

-- What changes nothing
theorem idle_appl : ∀ {o : List DPart} {t : List Int}, oks o → putsOf o ≤ 0 → dropsOf o ≤ 0 → fromOf o = t.length → appl o t = t
  | [], t, _, _, _, hf => by
    have : t = [] := List.length_eq_zero_iff.1 (by have : fromOf [] = 0 := rfl; omega)
    subst this; rfl
  | p :: o, t, h, hp, hd, hf => by
    have p0 : 0 ≤ putsOf o := sumI_nn fun x hx => (bd_part (oks_tl h x hx)).2.1.1
    have d0 : 0 ≤ dropsOf o := sumI_nn fun x hx => (bd_part (oks_tl h x hx)).2.2.1.1
    have f0 := from_ok (oks_tl h)
    have e1 : putsOf (p :: o) = pPut p + putsOf o := rfl
    have e2 : dropsOf (p :: o) = pDrop p + dropsOf o := rfl
    have e3 : fromOf (p :: o) = pFrom p + fromOf o := rfl
    have b := bd_part (oks_hd h)
    rw [e1] at hp
    rw [e2] at hd
    rw [e3] at hf
    obtain ⟨k, m, s⟩ := p
    rcases okPart_cases (oks_hd h) with ⟨k1, k2, k3, k4⟩ | ⟨k1, k2, k3, k4⟩ | ⟨k1, k2, k3, k4⟩ <;> simp only at k1 k2 k3 k4
    · subst k1
      have hm : m + fromOf o = t.length := by simpa [pFrom, pKeep, pDrop] using hf
      rw [appl_k1 rfl, idle_appl (oks_tl h) (by omega) (by omega) (by rw [List.length_drop]; omega), List.take_append_drop]
    · subst k1
      have hs : (s.length : Int) ≤ 0 := by have : pPut ⟨2, m, s⟩ = s.length := by simp [pPut]
                                           omega
      have hs0 : s = [] := List.length_eq_zero_iff.1 (by omega)
      have hm : fromOf o = t.length := by simpa [pFrom, pKeep, pDrop] using hf
      rw [appl_k2 rfl, hs0, List.nil_append, idle_appl (oks_tl h) (by omega) (by omega) hm]
    · subst k1
      have hm : m ≤ 0 := by have : pDrop ⟨3, m, s⟩ = m := by simp [pDrop]
                            omega
      have hm0 : m = 0 := by omega
      have hf' : m + fromOf o = t.length := by simpa [pFrom, pKeep, pDrop] using hf
      rw [appl_k3 rfl, hm0]
      simp only [Int.toNat_zero, List.drop_zero]
      exact idle_appl (oks_tl h) (by omega) (by omega) (by omega)
theorem dparts_self : ∀ t : List Int, putsOf (dparts t t) = 0 ∧ dropsOf (dparts t t) = 0
  | [] => by rw [dparts]; exact ⟨rfl, rfl⟩
  | x :: t => by
    have g := dparts_self t
    rw [dparts, if_pos rfl]
    have e1 : ∀ l : List DPart, putsOf (⟨1, 1, []⟩ :: l) = putsOf l := fun l => by show (0 : Int) + putsOf l = _; omega
    have e2 : ∀ l : List DPart, dropsOf (⟨1, 1, []⟩ :: l) = dropsOf l := fun l => by show (0 : Int) + dropsOf l = _; omega
    rw [e1, e2]
    exact g

structure Dn (t a : List Int) (o : List DPart) : Prop where
  ok : okOp o = true
  nm : nrm o = o
  fr : fromOf o = t.length
  to : toOf o = a.length
  ap : appl o t = a
theorem dn {t a : List Int} (h : okDiff t a = true) : Dn t a (nrm (dparts t a)) := by
  have ho := dparts_op h
  have hk := okOp_kinds ho
  exact ⟨okOp_nrm ho, nrm_nrm hk, by rw [from_nrm hk, (dparts_sum t a).1], by rw [to_nrm hk, (dparts_sum t a).2], by rw [appl_nrm hk, dparts_appl]⟩
theorem puts_to {o : List DPart} (h : okOp o = true) : putsOf o ≤ toOf o ∧ 0 ≤ putsOf o := by
  have := okOp_all h
  have := sum_to o
  omega
theorem merge_yes {t a b : List Int} {x y : List DPart} (ht : okText t = true) (ha : okDiff t a = true) (hb : okDiff t b = true) (ex : x = nrm (dparts t a)) (ey : y = nrm (dparts t b)) (hs : a.length + b.length ≤ 200) :
    merge t a b = (appl (ledY x y) a, true) ∧ okOp (ledX x y) = true ∧ okOp (ledY x y) = true ∧ fromOf (ledX x y) = b.length ∧ fromOf (ledY x y) = a.length ∧ appl (ledY x y) a = appl (ledX x y) b := by
  have hx := ex ▸ dn ha
  have hy := ey ▸ dn hb
  have px := puts_to hx.ok
  have tx := hx.to
  have ty := hy.to
  have hf : fromOf x = fromOf y := by rw [hx.fr, hy.fr]
  obtain ⟨l1, l2, l3⟩ := led_yes hx.ok hy.ok hf (by omega)
  have ls := led_sums hx.ok hy.ok hf
  have me := led_meet hx.ok hy.ok hf hx.fr
  rw [hx.ap, hy.ap] at me
  have oa : okText a = true := by
    unfold okDiff at ha
    simp only [Bool.and_eq_true] at ha
    exact ha.1.1.2
  have f1 : fits x t = true := by unfold fits; rw [hx.ok, ht, hx.fr]; simp
  have f2 : fits (ledY x y) a = true := by unfold fits; rw [l3, oa, ls.2.1, tx]; simp
  refine ⟨?_, l2, l3, by rw [ls.1, ty], by rw [ls.2.1, tx], me⟩
  unfold merge
  rw [← ex, ← ey, l1, if_pos ⟨⟨ha, hb⟩, rfl⟩]
  unfold ran
  rw [if_pos ht]
  simp only [runL, f1, f2, hx.ap, if_true]

theorem math_FnMerge (code : List UInt8) (_ : wfL wfY code) : x_laws_FnMerge code = some true := by
  unfold x_laws_FnMerge
  by_cases hl : (1048576 : Int) < (code.length : Int)
  · rw [cd_t hl]
  rw [cd_f hl]
  obtain ⟨t, a1, a2, a3⟩ := s_MakeText code 1 (by omega) (by decide)
  obtain ⟨a, c1, c2, c3⟩ := s_MakeText code 2 (by omega) (by decide)
  have b3 : okText (t ++ [90]) = true := by
    unfold okText at a3 ⊢
    simp only [Bool.and_eq_true, decide_eq_true_eq] at a3
    rw [List.all_append, a3.2]
    simp [okSign]; omega
  have d1 : okDiff t a = true := by unfold okDiff; rw [a3, c3]; simp; omega
  have d2 : okDiff t t = true := by unfold okDiff; rw [a3]; simp; omega
  have d3 : okDiff t (t ++ [90]) = true := by unfold okDiff; rw [a3, b3]; simp; omega
  have lb : (t ++ [90]).length = t.length + 1 := by simp
  have hx := dn d1
  have hy := dn d2
  have hz := dn d3
  have sy := sums_nrm (okOp_kinds (dparts_op d2))
  have se := dparts_self t
  obtain ⟨m1, m2, m3, m4, m5, m6⟩ := merge_yes a3 d1 d2 rfl rfl (by omega)
  obtain ⟨n1, n2, n3, n4, n5, n6⟩ := merge_yes a3 d2 d1 rfl rfl (by omega)
  obtain ⟨p1, p2, p3, p4, p5, p6⟩ := merge_yes a3 d1 d3 rfl rfl (by omega)
  obtain ⟨q1, q2, q3, q4, q5, q6⟩ := merge_yes a3 d3 d1 rfl rfl (by omega)
  have r1 := led_more hx.ok hy.ok (by rw [hx.fr, hy.fr])
  have r2 := led_more hy.ok hx.ok (by rw [hx.fr, hy.fr])
  have e1 : appl (ledY (nrm (dparts t a)) (nrm (dparts t t))) a = a := idle_appl (okOp_oks m3).1 (by omega) (by omega) m5
  have e2 : appl (ledY (nrm (dparts t t)) (nrm (dparts t a))) t = a := by rw [n6]; exact idle_appl (okOp_oks n2).1 (by omega) (by omega) n4
  rw [e1] at m1
  rw [e2] at n1
  rw [a1, Option.bind_some, c1, Option.bind_some, i_Merge, m1, Option.bind_some, i_Merge, n1, Option.bind_some]
  simp only [Bool.not_true, cd_F, Option.bind_some]
  rw [i_SignsSame, decide_eq_true rfl, Option.bind_some]
  simp only [Bool.not_true, cd_F, Option.bind_some]
  rw [xg_of (by omega), xg_of (by simp; omega), List.nil_append, i_Diff, d1, if_pos rfl, Option.bind_some, i_Diff, d3, if_pos rfl, Option.bind_some, i_Merge, p1, Option.bind_some, i_Merge, q1, Option.bind_some]
  simp only [Bool.not_true, cd_F, Option.bind_some]
  have tl := touches_len (nrm (dparts t a))
  rw [if_pos hx.ok, hx.fr] at tl
  rw [i_Touches, Option.bind_some, xg_I (by omega) (by omega), decide_eq_true (by omega), Option.bind_some]
  simp only [Bool.not_true, cd_F]
  rw [i_Apart, Option.bind_some]
  by_cases hc : clashes (nrm (dparts t a)) (nrm (dparts t (t ++ [90]))) = 0
  · have hs : ledY (nrm (dparts t (t ++ [90]))) (nrm (dparts t a)) = ledX (nrm (dparts t a)) (nrm (dparts t (t ++ [90]))) := by
      obtain ⟨j, jl⟩ := J2 hx.ok hz.ok (by rw [hx.fr, hz.fr])
      unfold ledX ledY
      rw [raw_swap (tr_swap 100000 0 j (by omega) (apart_hit hx.ok hz.ok hx.nm hz.nm (by rw [hx.fr, hz.fr]) hc))]
    rw [decide_eq_true hc, Bool.not_true, cd_F, i_Clashes, Option.bind_some, decide_eq_true hc, cd_T, i_SignsSame, p6, hs, decide_eq_true rfl]
    rfl
  · rw [decide_eq_false hc]; rfl
end Go.Proofs.Ythfkcpdechjmnaa
