/- What is put in and taken out by changes led past each other. No condition. -/
import Derived.Test.YthfkcpdechjmnaaM6
namespace Go.Proofs.Ythfkcpdechjmnaa

theorem szs_app (a b : List DPart) : szs (a ++ b) = szs a + szs b := sumI_app _ a b
theorem szs_rst {p : DPart} {n : Int} (h : okPart p = true) (h0 : 0 ≤ n) (h1 : n ≤ pSz p) : pSz (pRst p n) = pSz p - n := (cut_ok h h0 h1).2.2.2.2.2
theorem z1 (n : Int) : pSz ⟨1, n, []⟩ = n := by simp [pSz]
theorem z2 (s : List Int) : pSz ⟨2, 0, s⟩ = s.length := by simp [pSz]
theorem z3 (n : Int) : pSz ⟨3, n, []⟩ = n := by simp [pSz]
theorem m1 (f n : Int) (hf : f ≠ 1) : pMid f ⟨1, n, []⟩ = n := by simp [pMid, pSz, show (1 : Int) ≠ f by omega]
theorem m22 (s : List Int) : pMid 2 ⟨2, 0, s⟩ = 0 := by simp [pMid]
theorem m23 (s : List Int) : pMid 3 ⟨2, 0, s⟩ = s.length := by simp [pMid, pSz]
theorem m32 (n : Int) : pMid 2 ⟨3, n, []⟩ = n := by simp [pMid, pSz]
theorem m33 (n : Int) : pMid 3 ⟨3, n, []⟩ = 0 := by simp [pMid]
theorem szs_nil : szs [] = 0 := rfl
theorem raw_more : ∀ (n : Nat) {a b : List DPart}, J 2 a b → szs a + szs b ≤ n →
    szs (rawX a b) - midOf 2 (rawX a b) = szs a - midOf 2 a ∧ szs (rawY a b) - midOf 2 (rawY a b) = szs b - midOf 2 b ∧ szs (rawX a b) - midOf 3 (rawX a b) ≤ szs a - midOf 3 a ∧ szs (rawY a b) - midOf 3 (rawY a b) ≤ szs b - midOf 3 b := by
  intro n
  induction n with
  | zero =>
    intro a b h hz
    have n1 := szs_nn h.oa
    have n2 := szs_nn h.ob
    have z1 := zero_skp h.oa (by omega)
    have z2 := zero_skp h.ob (by omega)
    unfold rawX rawY
    rw [tr_E z1 z2, ← mid_skp 3 a, ← mid_skp 3 b, ← mid_skp 2 a, ← mid_skp 2 b, ← szs_skp a, ← szs_skp b, z1, z2]
    exact ⟨rfl, rfl, Int.le_refl _, Int.le_refl _⟩
  | succ n ih =>
    intro a b h hz
    have ma := mid_skp 2 a
    have mb := mid_skp 2 b
    have na := mid_skp 3 a
    have nb := mid_skp 3 b
    have sa := szs_skp a
    have sb := szs_skp b
    unfold rawX rawY
    rcases tr_cases h with ⟨hA, hB, ht⟩ | ⟨p, r, hA, hk, ok, hl, g1, g2, ht⟩ | ⟨q, t, hB, hk, ok, hl, hA, g1, g2, ht⟩ | ⟨p, r, q, t, m, hA, hB, hk, hk2, okp, okq, hl, hl2, hn, h0, h1, h2, g1, g2, ht⟩ <;> rw [ht]
    · rw [← ma, ← mb, ← na, ← nb, ← sa, ← sb, hA, hB]
      exact ⟨rfl, rfl, Int.le_refl _, Int.le_refl _⟩
    · have g := ih g1 (by omega)
      unfold rawX rawY at g
      have b1 := pSz_bd ok
      have sz := sz_2 ok hk
      rw [hA, mid_cons, pMid_f hk] at ma
      rw [hA, mid_cons, pMid_n (by omega)] at na
      rw [hA, szs_cons] at sa
      rw [mid_cons, mid_cons, szs_cons, pMid_rst0 ok b1.1 (Int.le_refl _) hk, pMid_f hk, pMid_rst ok b1.1 (Int.le_refl _) (by omega), pMid_n (by omega), szs_rst ok b1.1 (Int.le_refl _)] at g
      rw [cut_2w ok hk]
      simp only [List.flatMap_cons, emX, emY, List.cons_append, List.nil_append, mid_cons, szs_cons, z1, z2, m1 2 _ (by omega), m1 3 _ (by omega), m22, m23]
      omega
    · have g := ih g1 (by omega)
      unfold rawX rawY at g
      have b1 := pSz_bd ok
      have sz := sz_2 ok hk
      rw [hB, mid_cons, pMid_f hk] at mb
      rw [hB, mid_cons, pMid_n (by omega)] at nb
      rw [hB, szs_cons] at sb
      rw [mid_cons, mid_cons, szs_cons, pMid_rst0 ok b1.1 (Int.le_refl _) hk, pMid_f hk, pMid_rst ok b1.1 (Int.le_refl _) (by omega), pMid_n (by omega), szs_rst ok b1.1 (Int.le_refl _)] at g
      rw [cut_2w ok hk]
      simp only [List.flatMap_cons, emX, emY, List.cons_append, List.nil_append, mid_cons, szs_cons, z1, z2, m1 2 _ (by omega), m1 3 _ (by omega), m22, m23]
      omega
    · have g := ih g1 (by omega)
      unfold rawX rawY at g
      have kp := kind_3 okp
      have kq := kind_3 okq
      have sp := szs_rst okp h0 h1
      have sq := szs_rst okq h0 h2
      rw [hA, mid_cons, pMid_n hk] at ma
      rw [hB, mid_cons, pMid_n hk2] at mb
      rw [hA, mid_cons] at na
      rw [hB, mid_cons] at nb
      rw [hA, szs_cons] at sa
      rw [hB, szs_cons] at sb
      simp only [mid_cons, szs_cons, sp, sq, pMid_rst okp h0 h1 hk, pMid_rst okq h0 h2 hk2, pMid_n hk, pMid_n hk2] at g
      have k3 : ∀ x : DPart, okPart x = true → ∀ m : Int, 0 ≤ m → m ≤ pSz x → (x.kind = 1 → pMid 3 (pRst x m) = pMid 3 x - m) ∧ (x.kind = 3 → pMid 3 (pRst x m) = pMid 3 x) := fun x hx m a b => ⟨fun h => pMid_rst hx a b (by omega), fun h => pMid_rst0 hx a b h⟩
      have cp := k3 p okp m h0 h1
      have cq := k3 q okq m h0 h2
      rcases kp with kp | kp | kp
      · rw [cp.1 kp] at g
        rcases kq with kq | kq | kq
        · rw [cq.1 kq] at g
          rw [cut_1 okp kp, cut_1 okq kq]
          simp only [List.flatMap_cons, emX, emY, List.cons_append, List.nil_append, if_true, mid_cons, szs_cons, z1, m1 2 _ (by omega), m1 3 _ (by omega)]
          omega
        · omega
        · rw [cq.2 kq] at g
          rw [cut_1 okp kp, cut_3 okq kq]
          simp only [List.flatMap_cons, emX, emY, List.cons_append, List.nil_append, if_true, Int.reduceEq, if_false, mid_cons, szs_cons, z3, m32, m33]
          omega
      · omega
      · rw [cp.2 kp] at g
        rcases kq with kq | kq | kq
        · rw [cq.1 kq] at g
          rw [cut_3 okp kp, cut_1 okq kq]
          simp only [List.flatMap_cons, emX, emY, List.cons_append, List.nil_append, if_true, Int.reduceEq, if_false, mid_cons, szs_cons, z3, m32, m33]
          omega
        · omega
        · rw [cq.2 kq] at g
          rw [cut_3 okp kp, cut_3 okq kq]
          simp only [List.flatMap_cons, emX, emY, List.nil_append, Int.reduceEq, if_false]
          omega
theorem q_puts {l : List DPart} (h : oks l) : szs l - midOf 2 l = putsOf l := by rw [szs_sum h, mid_from h, sum_from]; omega
theorem q_drops {l : List DPart} (h : oks l) : szs l - midOf 3 l = dropsOf l := by rw [szs_sum h, mid_to h, sum_to]; omega
theorem okPart_sgn {p : DPart} (h : okPart p = true) (hk : p.kind = 2) : p.signs.all okSign = true := by
  rcases okPart_cases h with ⟨g1, _⟩ | ⟨_, _, _, g4⟩ | ⟨g1, _⟩
  · omega
  · exact g4
  · omega
theorem led_more {a b : List DPart} (ha : okOp a = true) (hb : okOp b = true) (hf : fromOf a = fromOf b) : putsOf (ledX a b) = putsOf a ∧ putsOf (ledY a b) = putsOf b ∧ dropsOf (ledX a b) ≤ dropsOf a ∧ dropsOf (ledY a b) ≤ dropsOf b := by
  obtain ⟨j, hl⟩ := J2 ha hb hf
  have g := raw_more 100000 j (by omega)
  have x := (rawX_ok j hl).1
  have y := (rawY_ok j hl).1
  rw [q_puts x, q_puts y, q_puts j.oa, q_puts j.ob, q_drops x, q_drops y, q_drops j.oa, q_drops j.ob] at g
  unfold ledX ledY
  obtain ⟨x1, x2, x3⟩ := sums_nrm (oks_kinds x)
  obtain ⟨y1, y2, y3⟩ := sums_nrm (oks_kinds y)
  rw [x2, y2, x3, y3]
  exact g
/-- Small changes can be led past each other. -/
theorem led_yes {a b : List DPart} (ha : okOp a = true) (hb : okOp b = true) (hf : fromOf a = fromOf b) (hs : toOf b + putsOf a ≤ 200) : led a b = (ledX a b, ledY a b, true) ∧ okOp (ledX a b) = true ∧ okOp (ledY a b) = true := by
  obtain ⟨j, hl⟩ := J2 ha hb hf
  have x := (rawX_ok j hl).1
  have y := (rawY_ok j hl).1
  have g := led_sums ha hb hf
  have m := led_more ha hb hf
  have b1 := okOp_sums ha
  have b2 := okOp_sums hb
  have e1 := sum_from (ledX a b)
  have e2 := sum_to (ledX a b)
  have e3 := sum_from (ledY a b)
  have e4 := sum_to (ledY a b)
  have e5 := sum_to a
  have e6 := sum_to b
  have d1 : 0 ≤ dropsOf (ledX a b) := (tight_count (tight_nrm fun p hp hk => okPart_sgn (x p hp) hk)).2.2.2.1
  have h1 : okOp (ledX a b) = true := okOp_tight (tight_nrm fun p hp hk => okPart_sgn (x p hp) hk) (by omega) (by omega)
  have h2 : okOp (ledY a b) = true := okOp_tight (tight_nrm fun p hp hk => okPart_sgn (y p hp) hk) (by omega) (by omega)
  refine ⟨?_, h1, h2⟩
  unfold led
  rw [if_pos ⟨ha, hb, hf, h1, h2⟩]
/-- The texts behind. -/
theorem led_meet {a b : List DPart} {t : List Int} (ha : okOp a = true) (hb : okOp b = true) (hf : fromOf a = fromOf b) (ht : fromOf a = t.length) : appl (ledY a b) (appl a t) = appl (ledX a b) (appl b t) := by
  obtain ⟨j, hl⟩ := J2 ha hb hf
  have x := (rawX_ok j hl).1
  have y := (rawY_ok j hl).1
  unfold ledX ledY
  rw [appl_nrm (oks_kinds x), appl_nrm (oks_kinds y)]
  exact diamond 100000 t j (by omega) (by rw [mid_from j.oa, ht])
end Go.Proofs.Ythfkcpdechjmnaa
