/- Changes one after the other: composed ones, and ones led past each other, applied to a text. No condition. -/
import Derived.Test.YthfkcpdechjmnaaMu
namespace Go.Proofs.Ythfkcpdechjmnaa

theorem oks_k {l : List DPart} (h : oks l) : kinds l := fun q hq => by
  have hp := h q hq
  rcases okPart_cases hp with ⟨h1, h2, h3, h4⟩ | ⟨h1, h2, h3, h4⟩ | ⟨h1, h2, h3, h4⟩ <;> simp [h1, h2]
theorem appl_k1 {k n : Int} {s : List Int} (h : k = 1) (o : List DPart) (t : List Int) : appl (⟨k, n, s⟩ :: o) t = t.take n.toNat ++ appl o (t.drop n.toNat) := by rw [appl, if_pos h]
theorem appl_k2 {k n : Int} {s : List Int} (h : k = 2) (o : List DPart) (t : List Int) : appl (⟨k, n, s⟩ :: o) t = s ++ appl o t := by rw [appl, if_neg (by simp only; omega), if_pos h]
theorem appl_k3 {k n : Int} {s : List Int} (h : k = 3) (o : List DPart) (t : List Int) : appl (⟨k, n, s⟩ :: o) t = appl o (t.drop n.toNat) := by rw [appl, if_neg (by simp only; omega), if_neg (by simp only; omega)]

theorem sz_2 {p : DPart} (h : okPart p = true) (hk : p.kind = 2) : pSz p = p.signs.length := by
  unfold pSz
  rcases okPart_cases h with ⟨g1, g2, g3, g4⟩ | ⟨g1, g2, g3, g4⟩ | ⟨g1, g2, g3, g4⟩ <;> omega

/-- A part, and the part in two. -/
theorem appl_two {p : DPart} {n : Int} (h : okPart p = true) (h0 : 0 ≤ n) (h1 : n ≤ pSz p) (o : List DPart) (t : List Int) : appl (p :: o) t = appl (pCut p n :: pRst p n :: o) t := by
  obtain ⟨k, m, s⟩ := p
  unfold pSz pCut pRst at *
  simp only at h1
  rcases okPart_cases h with ⟨g1, g2, g3, g4⟩ | ⟨g1, g2, g3, g4⟩ | ⟨g1, g2, g3, g4⟩ <;> simp only at g1 g2 g3 g4
  · subst g1 g4
    simp only [List.length_nil] at h1
    rw [if_neg (by simp), if_neg (by simp), appl_k1 rfl, appl_k1 rfl, appl_k1 rfl, List.drop_drop, ← List.append_assoc]
    have e : n.toNat + (m - n).toNat = m.toNat := by omega
    rw [e, ← e, List.take_add]
  · subst g1 g2
    rw [if_pos rfl, if_pos rfl, appl_k2 rfl, appl_k2 rfl, appl_k2 rfl, ← List.append_assoc, List.drop_zero, List.take_length, List.take_append_drop]
  · subst g1 g4
    simp only [List.length_nil] at h1
    rw [if_neg (by simp), if_neg (by simp), appl_k3 rfl, appl_k3 rfl, appl_k3 rfl, List.drop_drop]
    have e : n.toNat + (m - n).toNat = m.toNat := by omega
    rw [e]
theorem appl_z {p : DPart} (h : okPart p = true) (h0 : pSz p = 0) (o : List DPart) (t : List Int) : appl (p :: o) t = appl o t := by
  obtain ⟨k, m, s⟩ := p
  unfold pSz at h0
  simp only at h0
  rcases okPart_cases h with ⟨g1, g2, g3, g4⟩ | ⟨g1, g2, g3, g4⟩ | ⟨g1, g2, g3, g4⟩ <;> simp only at g1 g2 g3 g4
  · have hm : m.toNat = 0 := by omega
    rw [appl_k1 g1, hm]; simp
  · have hs : s = [] := List.length_eq_zero_iff.1 (by omega)
    rw [appl_k2 g1, hs]; simp
  · have hm : m.toNat = 0 := by omega
    rw [appl_k3 g1, hm]; simp
theorem appl_skp : ∀ {l : List DPart}, oks l → ∀ (t : List Int), appl (skp l) t = appl l t
  | [], _, _ => rfl
  | p :: r, h, t => by
    by_cases h0 : pSz p = 0
    · rw [skp_z h0, appl_skp (oks_tl h), appl_z (oks_hd h) h0]
    · rw [skp_n h0]
/-- What a cut part is. -/
theorem cut_1 {p : DPart} {n : Int} (h : okPart p = true) (hk : p.kind = 1) : pCut p n = ⟨1, n, []⟩ := by
  obtain ⟨k, m, s⟩ := p
  simp only at hk
  subst hk
  rcases okPart_cases h with ⟨g1, g2, g3, g4⟩ | ⟨g1, g2, g3, g4⟩ | ⟨g1, g2, g3, g4⟩ <;> simp only at g1 g2 g3 g4
  · subst g4; unfold pCut; rw [if_neg (by simp)]
  · omega
  · omega
theorem cut_3 {p : DPart} {n : Int} (h : okPart p = true) (hk : p.kind = 3) : pCut p n = ⟨3, n, []⟩ := by
  obtain ⟨k, m, s⟩ := p
  simp only at hk
  subst hk
  rcases okPart_cases h with ⟨g1, g2, g3, g4⟩ | ⟨g1, g2, g3, g4⟩ | ⟨g1, g2, g3, g4⟩ <;> simp only at g1 g2 g3 g4
  · omega
  · omega
  · subst g4; unfold pCut; rw [if_neg (by simp)]
theorem cut_2 {p : DPart} {n : Int} (h : okPart p = true) (hk : p.kind = 2) : pCut p n = ⟨2, 0, p.signs.take n.toNat⟩ := by
  obtain ⟨k, m, s⟩ := p
  simp only at hk
  subst hk
  rcases okPart_cases h with ⟨g1, g2, g3, g4⟩ | ⟨g1, g2, g3, g4⟩ | ⟨g1, g2, g3, g4⟩ <;> simp only at g1 g2 g3 g4
  · omega
  · subst g2; unfold pCut; rw [if_pos rfl, List.drop_zero]
  · omega
theorem kind_3 {p : DPart} (h : okPart p = true) : p.kind = 1 ∨ p.kind = 2 ∨ p.kind = 3 := by
  rcases okPart_cases h with ⟨g1, _⟩ | ⟨g1, _⟩ | ⟨g1, _⟩ <;> simp [g1]
theorem cut_2w {p : DPart} (h : okPart p = true) (hk : p.kind = 2) : pCut p (pSz p) = ⟨2, 0, p.signs⟩ := by
  rw [cut_2 h hk]
  have := sz_2 h hk
  rw [show (pSz p).toNat = p.signs.length by omega, List.take_length]

theorem mid_app (f : Int) (a b : List DPart) : midOf f (a ++ b) = midOf f a + midOf f b := sumI_app _ a b
theorem mid_one (f : Int) (p : DPart) : midOf f [p] = pMid f p := by rw [mid_cons]; show pMid f p + 0 = _; omega
theorem pMid_cut {f : Int} {p : DPart} {n : Int} (h : okPart p = true) (h0 : 0 ≤ n) (h1 : n ≤ pSz p) : pMid f (pCut p n) = if p.kind = f then 0 else n := by
  have g := cut_ok h h0 h1
  unfold pMid
  rw [g.2.1, g.2.2.1]
theorem pMid_keep (f : Int) (hf : f ≠ 1) (n : Int) : pMid f ⟨1, n, []⟩ = n := by
  unfold pMid pSz
  rw [if_neg (fun h => hf h.symm)]; simp
theorem raw_sums : ∀ (n : Nat) {a b : List DPart}, J 2 a b → szs a + szs b ≤ n → midOf 2 (rawX a b) = midOf 3 b ∧ midOf 2 (rawY a b) = midOf 3 a ∧ midOf 3 (rawX a b) = midOf 3 (rawY a b) := by
  intro n
  induction n with
  | zero =>
    intro a b h hz
    have n1 := szs_nn h.oa
    have n2 := szs_nn h.ob
    have z1 := zero_skp h.oa (by omega)
    have z2 := zero_skp h.ob (by omega)
    unfold rawX rawY
    rw [tr_E z1 z2, ← mid_skp 3 a, ← mid_skp 3 b, z1, z2]
    exact ⟨rfl, rfl, rfl⟩
  | succ n ih =>
    intro a b h hz
    have ma := mid_skp 3 a
    have mb := mid_skp 3 b
    unfold rawX rawY
    rcases tr_cases h with ⟨hA, hB, ht⟩ | ⟨p, r, hA, hk, ok, hl, g1, g2, ht⟩ | ⟨q, t, hB, hk, ok, hl, hA, g1, g2, ht⟩ | ⟨p, r, q, t, m, hA, hB, hk, hk2, okp, okq, hl, hl2, hn, h0, h1, h2, g1, g2, ht⟩ <;> rw [ht]
    · rw [← ma, ← mb, hA, hB]
      exact ⟨rfl, rfl, rfl⟩
    · have g := ih g1 (by omega)
      unfold rawX rawY at g
      have b1 := pSz_bd ok
      have c2 := pMid_cut (f := 2) ok b1.1 (Int.le_refl _)
      have c3 := pMid_cut (f := 3) ok b1.1 (Int.le_refl _)
      rw [if_pos hk] at c2
      rw [if_neg (by omega)] at c3
      rw [hA, mid_cons, pMid_n (by omega)] at ma
      have e := g.2.1
      rw [mid_cons, pMid_rst ok b1.1 (Int.le_refl _) (by omega), pMid_n (by omega)] at e
      simp only [List.flatMap_cons, emX, emY, mid_app, mid_one, c2, c3, cut_sl ok hk b1.1 (Int.le_refl _), pMid_keep 2 (by omega), pMid_keep 3 (by omega)]
      omega
    · have g := ih g1 (by omega)
      unfold rawX rawY at g
      have b1 := pSz_bd ok
      have c2 := pMid_cut (f := 2) ok b1.1 (Int.le_refl _)
      have c3 := pMid_cut (f := 3) ok b1.1 (Int.le_refl _)
      rw [if_pos hk] at c2
      rw [if_neg (by omega)] at c3
      rw [hB, mid_cons, pMid_n (by omega)] at mb
      have e := g.1
      rw [mid_cons, pMid_rst ok b1.1 (Int.le_refl _) (by omega), pMid_n (by omega)] at e
      simp only [List.flatMap_cons, emX, emY, mid_app, mid_one, c2, c3, cut_sl ok hk b1.1 (Int.le_refl _), pMid_keep 2 (by omega), pMid_keep 3 (by omega)]
      omega
    · have g := ih g1 (by omega)
      unfold rawX rawY at g
      have P3 : p.kind ≠ 1 → p.kind = 3 := fun h => by rcases okPart_cases okp with ⟨g1, _⟩ | ⟨g1, _⟩ | ⟨g1, _⟩ <;> omega
      have Q3 : q.kind ≠ 1 → q.kind = 3 := fun h => by rcases okPart_cases okq with ⟨g1, _⟩ | ⟨g1, _⟩ | ⟨g1, _⟩ <;> omega
      have c2 := pMid_cut (f := 2) okp h0 h1
      have c3 := pMid_cut (f := 3) okp h0 h1
      have d2 := pMid_cut (f := 2) okq h0 h2
      have d3 := pMid_cut (f := 3) okq h0 h2
      have kc := (cut_ok okp h0 h1).2.1
      have kd := (cut_ok okq h0 h2).2.1
      rw [hA, mid_cons] at ma
      rw [hB, mid_cons] at mb
      have e1 := g.1
      have e2 := g.2.1
      rw [mid_cons] at e1 e2
      rw [if_neg hk] at c2
      rw [if_neg hk2] at d2
      simp only [List.flatMap_cons, emX, emY, mid_app, kc, kd]
      by_cases k1 : p.kind = 1
      · rw [if_neg (by omega)] at c3
        rw [pMid_rst okp h0 h1 (by omega)] at e2
        rw [if_pos k1, mid_one, mid_one]
        by_cases k2 : q.kind = 1
        · rw [if_neg (by omega)] at d3
          rw [pMid_rst okq h0 h2 (by omega)] at e1
          rw [if_pos k2, mid_one, mid_one]
          omega
        · have := Q3 k2
          rw [if_pos this] at d3
          rw [pMid_rst0 okq h0 h2 this] at e1
          rw [if_neg k2]
          show 0 + _ = _ ∧ _ ∧ 0 + _ = _
          omega
      · have k3 := P3 k1
        rw [if_pos k3] at c3
        rw [pMid_rst0 okp h0 h1 k3] at e2
        rw [if_neg k1]
        by_cases k2 : q.kind = 1
        · rw [pMid_rst okq h0 h2 (by omega)] at e1
          rw [if_pos k2, mid_one, mid_one]
          show _ ∧ 0 + _ = _ ∧ _ = 0 + _
          omega
        · have := Q3 k2
          rw [pMid_rst0 okq h0 h2 this] at e1
          rw [if_neg k2]
          show 0 + _ = _ ∧ 0 + _ = _ ∧ 0 + _ = 0 + _
          omega
theorem led_get {a b : List DPart} (h : (led a b).2.2 = true) : okOp a = true ∧ okOp b = true ∧ fromOf a = fromOf b ∧ okOp (ledX a b) = true ∧ okOp (ledY a b) = true ∧ led a b = (ledX a b, ledY a b, true) := by
  unfold led at h ⊢
  split at h
  · rename_i g; exact ⟨g.1, g.2.1, g.2.2.1, g.2.2.2.1, g.2.2.2.2, if_pos g⟩
  · cases h
theorem oks_kinds {l : List DPart} (h : ∀ p ∈ l, okPart p = true) : kinds l := fun q hq => by
  rcases okPart_cases (h q hq) with ⟨g1, g2, g3, g4⟩ | ⟨g1, g2, g3, g4⟩ | ⟨g1, g2, g3, g4⟩
  · exact ⟨.inl g1, g2, fun h => by omega⟩
  · exact ⟨.inr (.inl g1), by omega, fun _ => g2⟩
  · exact ⟨.inr (.inr g1), g2, fun h => by omega⟩
/-- Where the two that are led past one another begin and end. -/
theorem led_sums {a b : List DPart} (ha : okOp a = true) (hb : okOp b = true) (hf : fromOf a = fromOf b) : fromOf (ledX a b) = toOf b ∧ fromOf (ledY a b) = toOf a ∧ toOf (ledX a b) = toOf (ledY a b) := by
  obtain ⟨j, hl⟩ := J2 ha hb hf
  have g := raw_sums 100000 j (by omega)
  have x := (rawX_ok j hl).1
  have y := (rawY_ok j hl).1
  unfold ledX ledY
  rw [from_nrm (oks_kinds x), from_nrm (oks_kinds y), to_nrm (oks_kinds x), to_nrm (oks_kinds y), ← mid_from x, ← mid_from y, ← mid_to x, ← mid_to y, ← mid_to j.oa, ← mid_to j.ob]
  exact g
/-- Two changes of one text, each led past the other, come to the same text. -/
theorem diamond : ∀ (n : Nat) {a b : List DPart} (t : List Int), J 2 a b → szs a + szs b ≤ n → midOf 2 a = t.length → appl (rawY a b) (appl a t) = appl (rawX a b) (appl b t) := by
  intro n
  induction n with
  | zero =>
    intro a b t h hz ht
    have n1 := szs_nn h.oa
    have n2 := szs_nn h.ob
    have z1 := zero_skp h.oa (by omega)
    have z2 := zero_skp h.ob (by omega)
    unfold rawX rawY
    rw [tr_E z1 z2, ← appl_skp h.oa, ← appl_skp h.ob, z1, z2]
    rfl
  | succ n ih =>
    intro a b t h hz hlen
    have oa := h.oa
    have ob := h.ob
    have ma := mid_skp 2 a
    rw [← appl_skp oa, ← appl_skp ob]
    unfold rawX rawY
    rcases tr_cases h with ⟨hA, hB, ht⟩ | ⟨p, r, hA, hk, ok, hl, g1, g2, ht⟩ | ⟨q, r, hB, hk, ok, hl, hA, g1, g2, ht⟩ | ⟨p, r, q, s, m, hA, hB, hk, hk2, okp, okq, hl, hl2, hn, h0, h1, h2, g1, g2, ht⟩ <;> rw [ht]
    · rw [hA, hB]; rfl
    · have b1 := pSz_bd ok
      have e : midOf 2 (pRst p (pSz p) :: r) = t.length := by rw [g1.m, ← h.m, hlen]
      have g := ih t g1 (by omega) e
      unfold rawX rawY at g
      have sz := sz_2 ok hk
      have cl := cut_2w ok hk
      rw [hA, appl_skp ob, appl_two ok b1.1 (Int.le_refl _), cl]
      simp only [List.flatMap_cons, emX, emY, List.cons_append, List.nil_append]
      rw [appl_k2 rfl, appl_k1 rfl, appl_k2 rfl, ← g, Int.toNat_natCast, List.take_left' rfl, List.drop_left' rfl]
    · have b1 := pSz_bd ok
      have e : midOf 2 (skp a) = t.length := by rw [ma, hlen]
      have g := ih t g1 (by omega) e
      unfold rawX rawY at g
      have sz := sz_2 ok hk
      have cl := cut_2w ok hk
      rw [hB, appl_two (o := r) ok b1.1 (Int.le_refl _), cl]
      simp only [List.flatMap_cons, emX, emY, List.cons_append, List.nil_append]
      rw [appl_k2 rfl, appl_k2 rfl, appl_k1 rfl, g, Int.toNat_natCast, List.take_left' rfl, List.drop_left' rfl]
    · have kp := kind_3 okp
      have kq := kind_3 okq
      have hp : pSz p ≤ t.length := by
        have := mid_nn (f := 2) (oks_tl (hA ▸ skp_oks oa))
        rw [hA, mid_cons, pMid_n hk] at ma
        omega
      have lt : (t.take m.toNat).length = m.toNat := by rw [List.length_take]; omega
      have e : midOf 2 (pRst p m :: r) = (t.drop m.toNat).length := by
        rw [mid_cons, pMid_rst okp h0 h1 hk]
        rw [hA, mid_cons] at ma
        rw [List.length_drop]
        omega
      have g := ih (t.drop m.toNat) g1 (by omega) e
      unfold rawX rawY at g
      rw [hA, hB, appl_two okp h0 h1, appl_two okq h0 h2]
      rcases kp with kp | kp | kp
      · rcases kq with kq | kq | kq
        · rw [cut_1 okp kp, cut_1 okq kq]
          simp only [List.flatMap_cons, emX, emY, List.cons_append, List.nil_append, if_true]
          rw [appl_k1 rfl, appl_k1 rfl, appl_k1 rfl, appl_k1 rfl, List.take_left' lt, List.drop_left' lt, g, List.take_left' lt, List.drop_left' lt]
        · omega
        · rw [cut_1 okp kp, cut_3 okq kq]
          simp only [List.flatMap_cons, emX, emY, List.cons_append, List.nil_append, if_true, Int.reduceEq, if_false]
          rw [appl_k1 rfl, appl_k3 rfl, appl_k3 rfl, List.drop_left' lt, g]
      · omega
      · rcases kq with kq | kq | kq
        · rw [cut_3 okp kp, cut_1 okq kq]
          simp only [List.flatMap_cons, emX, emY, List.cons_append, List.nil_append, if_true, Int.reduceEq, if_false]
          rw [appl_k1 rfl, appl_k3 rfl, appl_k3 rfl, List.drop_left' lt, g]
        · omega
        · rw [cut_3 okp kp, cut_3 okq kq]
          simp only [List.flatMap_cons, emX, emY, List.nil_append, Int.reduceEq, if_false]
          rw [appl_k3 rfl, appl_k3 rfl, g]

end Go.Proofs.Ythfkcpdechjmnaa
