/- Changes one after the other: composed ones, and ones led past each other, applied to a text. No condition. -/
import Derived.Test.YtlgmikaemfbmaaaGreatMu
namespace Go.Proofs.YtlgmikaemfbmaaaGreat

theorem oks_k {l : List DPart} (h : oks l) : kinds l := fun q hq => by
  have hp := h q hq
  rcases okPart_cases hp with ⟨h1, h2, h3, h4⟩ | ⟨h1, h2, h3, h4⟩ | ⟨h1, h2, h3, h4⟩ <;> simp [h1, h2]
theorem appl_k1 {k n : Int} {s : List Int} (h : k = 1) (o : List DPart) (t : List Int) : appl (⟨k, n, s⟩ :: o) t = t.take n.toNat ++ appl o (t.drop n.toNat) := by rw [appl, if_pos h]
theorem appl_k2 {k n : Int} {s : List Int} (h : k = 2) (o : List DPart) (t : List Int) : appl (⟨k, n, s⟩ :: o) t = s ++ appl o t := by rw [appl, if_neg (by simp only; omega), if_pos h]
theorem appl_k3 {k n : Int} {s : List Int} (h : k = 3) (o : List DPart) (t : List Int) : appl (⟨k, n, s⟩ :: o) t = appl o (t.drop n.toNat) := by rw [appl, if_neg (by simp only; omega), if_neg (by simp only; omega)]

theorem sz_2 {p : DPart} (h : okPart p = true) (hk : p.kind = 2) : pSz p = p.signs.length := by
  unfold pSz
  rcases okPart_cases h with ⟨g1, g2, g3, g4⟩ | ⟨g1, g2, g3, g4⟩ | ⟨g1, g2, g3, g4⟩ <;> omega

/-- A part, and the part in two. -/
theorem appl_two {p : DPart} {n : Int} (h : okPart p = true) (h0 : 0 ≤ n) (h1 : n ≤ pSz p) (o : List DPart) (t : List Int) : appl (p :: o) t = appl (pCut p n :: pRst p n :: o) t := by
  obtain ⟨k, m, s⟩ := p
  unfold pSz pCut pRst at *
  simp only at h1
  rcases okPart_cases h with ⟨g1, g2, g3, g4⟩ | ⟨g1, g2, g3, g4⟩ | ⟨g1, g2, g3, g4⟩ <;> simp only at g1 g2 g3 g4
  · subst g1 g4
    simp only [List.length_nil] at h1
    rw [if_neg (by simp), if_neg (by simp), appl_k1 rfl, appl_k1 rfl, appl_k1 rfl, List.drop_drop, ← List.append_assoc]
    have e : n.toNat + (m - n).toNat = m.toNat := by omega
    rw [e, ← e, List.take_add]
  · subst g1 g2
    rw [if_pos rfl, if_pos rfl, appl_k2 rfl, appl_k2 rfl, appl_k2 rfl, ← List.append_assoc, List.drop_zero, List.take_length, List.take_append_drop]
  · subst g1 g4
    simp only [List.length_nil] at h1
    rw [if_neg (by simp), if_neg (by simp), appl_k3 rfl, appl_k3 rfl, appl_k3 rfl, List.drop_drop]
    have e : n.toNat + (m - n).toNat = m.toNat := by omega
    rw [e]
theorem appl_z {p : DPart} (h : okPart p = true) (h0 : pSz p = 0) (o : List DPart) (t : List Int) : appl (p :: o) t = appl o t := by
  obtain ⟨k, m, s⟩ := p
  unfold pSz at h0
  simp only at h0
  rcases okPart_cases h with ⟨g1, g2, g3, g4⟩ | ⟨g1, g2, g3, g4⟩ | ⟨g1, g2, g3, g4⟩ <;> simp only at g1 g2 g3 g4
  · have hm : m.toNat = 0 := by omega
    rw [appl_k1 g1, hm]; simp
  · have hs : s = [] := List.length_eq_zero_iff.1 (by omega)
    rw [appl_k2 g1, hs]; simp
  · have hm : m.toNat = 0 := by omega
    rw [appl_k3 g1, hm]; simp
theorem appl_skp : ∀ {l : List DPart}, oks l → ∀ (t : List Int), appl (skp l) t = appl l t
  | [], _, _ => rfl
  | p :: r, h, t => by
    by_cases h0 : pSz p = 0
    · rw [skp_z h0, appl_skp (oks_tl h), appl_z (oks_hd h) h0]
    · rw [skp_n h0]
/-- What a cut part is. -/
theorem cut_1 {p : DPart} {n : Int} (h : okPart p = true) (hk : p.kind = 1) : pCut p n = ⟨1, n, []⟩ := by
  obtain ⟨k, m, s⟩ := p
  simp only at hk
  subst hk
  rcases okPart_cases h with ⟨g1, g2, g3, g4⟩ | ⟨g1, g2, g3, g4⟩ | ⟨g1, g2, g3, g4⟩ <;> simp only at g1 g2 g3 g4
  · subst g4; unfold pCut; rw [if_neg (by simp)]
  · omega
  · omega
theorem cut_3 {p : DPart} {n : Int} (h : okPart p = true) (hk : p.kind = 3) : pCut p n = ⟨3, n, []⟩ := by
  obtain ⟨k, m, s⟩ := p
  simp only at hk
  subst hk
  rcases okPart_cases h with ⟨g1, g2, g3, g4⟩ | ⟨g1, g2, g3, g4⟩ | ⟨g1, g2, g3, g4⟩ <;> simp only at g1 g2 g3 g4
  · omega
  · omega
  · subst g4; unfold pCut; rw [if_neg (by simp)]
theorem cut_2 {p : DPart} {n : Int} (h : okPart p = true) (hk : p.kind = 2) : pCut p n = ⟨2, 0, p.signs.take n.toNat⟩ := by
  obtain ⟨k, m, s⟩ := p
  simp only at hk
  subst hk
  rcases okPart_cases h with ⟨g1, g2, g3, g4⟩ | ⟨g1, g2, g3, g4⟩ | ⟨g1, g2, g3, g4⟩ <;> simp only at g1 g2 g3 g4
  · omega
  · subst g2; unfold pCut; rw [if_pos rfl, List.drop_zero]
  · omega
theorem kind_3 {p : DPart} (h : okPart p = true) : p.kind = 1 ∨ p.kind = 2 ∨ p.kind = 3 := by
  rcases okPart_cases h with ⟨g1, _⟩ | ⟨g1, _⟩ | ⟨g1, _⟩ <;> simp [g1]
theorem cut_2w {p : DPart} (h : okPart p = true) (hk : p.kind = 2) : pCut p (pSz p) = ⟨2, 0, p.signs⟩ := by
  rw [cut_2 h hk]
  have := sz_2 h hk
  rw [show (pSz p).toNat = p.signs.length by omega, List.take_length]

theorem mid_app (f : Int) (a b : List DPart) : midOf f (a ++ b) = midOf f a + midOf f b := sumI_app _ a b
theorem mid_one (f : Int) (p : DPart) : midOf f [p] = pMid f p := by rw [mid_cons]; show pMid f p + 0 = _; omega
theorem pMid_cut {f : Int} {p : DPart} {n : Int} (h : okPart p = true) (h0 : 0 ≤ n) (h1 : n ≤ pSz p) : pMid f (pCut p n) = if p.kind = f then 0 else n := by
  have g := cut_ok h h0 h1
  unfold pMid
  rw [g.2.1, g.2.2.1]
theorem pMid_keep (f : Int) (hf : f ≠ 1) (n : Int) : pMid f ⟨1, n, []⟩ = n := by
  unfold pMid pSz
  rw [if_neg (fun h => hf h.symm)]; simp
theorem led_get {a b : List DPart} (h : (led a b).2.2 = true) : okOp a = true ∧ okOp b = true ∧ fromOf a = fromOf b ∧ okOp (ledX a b) = true ∧ okOp (ledY a b) = true ∧ led a b = (ledX a b, ledY a b, true) := by
  unfold led at h ⊢
  split at h
  · rename_i g; exact ⟨g.1, g.2.1, g.2.2.1, g.2.2.2.1, g.2.2.2.2, if_pos g⟩
  · cases h
theorem oks_kinds {l : List DPart} (h : ∀ p ∈ l, okPart p = true) : kinds l := fun q hq => by
  rcases okPart_cases (h q hq) with ⟨g1, g2, g3, g4⟩ | ⟨g1, g2, g3, g4⟩ | ⟨g1, g2, g3, g4⟩
  · exact ⟨.inl g1, g2, fun h => by omega⟩
  · exact ⟨.inr (.inl g1), by omega, fun _ => g2⟩
  · exact ⟨.inr (.inr g1), g2, fun h => by omega⟩
theorem comp_appl : ∀ (n : Nat) {a b : List DPart} (t : List Int), J 3 a b → szs a + szs b ≤ n → midOf 2 a = t.length → appl (rawC a b) t = appl b (appl a t) := by
  intro n
  induction n with
  | zero =>
    intro a b t h hz ht
    have n1 := szs_nn h.oa
    have n2 := szs_nn h.ob
    have z1 := zero_skp h.oa (by omega)
    have z2 := zero_skp h.ob (by omega)
    unfold rawC
    rw [tr_E z1 z2, ← appl_skp h.oa, ← appl_skp h.ob, z1, z2]
    rfl
  | succ n ih =>
    intro a b t h hz hlen
    have oa := h.oa
    have ob := h.ob
    have ma := mid_skp 2 a
    rw [← appl_skp oa, ← appl_skp ob]
    unfold rawC
    rcases tr_cases h with ⟨hA, hB, ht⟩ | ⟨p, r, hA, hk, ok, hl, g1, g2, ht⟩ | ⟨q, r, hB, hk, ok, hl, hA, g1, g2, ht⟩ | ⟨p, r, q, s, m, hA, hB, hk, hk2, okp, okq, hl, hl2, hn, h0, h1, h2, g1, g2, ht⟩ <;> rw [ht]
    · rw [hA, hB]; rfl
    · have b1 := pSz_bd ok
      have e : midOf 2 (pRst p (pSz p) :: r) = (t.drop (pSz p).toNat).length := by
        have := mid_nn (f := 2) (oks_tl (hA ▸ skp_oks oa))
        rw [mid_cons, pMid_rst ok b1.1 (Int.le_refl _) (by omega)]
        rw [hA, mid_cons, pMid_n (by omega)] at ma
        rw [List.length_drop, pMid_n (by omega)]
        omega
      have g := ih _ g1 (by omega) e
      unfold rawC at g
      rw [hA, appl_skp ob, appl_two ok b1.1 (Int.le_refl _), cut_3 ok hk]
      simp only [List.flatMap_cons, emC, List.cons_append, List.nil_append]
      rw [appl_k3 rfl, appl_k3 rfl, g]
    · have b1 := pSz_bd ok
      have e : midOf 2 (skp a) = t.length := by rw [ma, hlen]
      have g := ih t g1 (by omega) e
      unfold rawC at g
      rw [hB, appl_two (o := r) ok b1.1 (Int.le_refl _), cut_2w ok hk]
      simp only [List.flatMap_cons, emC, List.cons_append, List.nil_append]
      rw [appl_k2 rfl, appl_k2 rfl, g]
    · have kp := kind_3 okp
      have kq := kind_3 okq
      rw [hA, hB, appl_two okp h0 h1, appl_two okq h0 h2]
      rcases kp with kp | kp | kp
      · have hp : pSz p ≤ t.length := by
          have := mid_nn (f := 2) (oks_tl (hA ▸ skp_oks oa))
          rw [hA, mid_cons, pMid_n (by omega)] at ma
          omega
        have lt : (t.take m.toNat).length = m.toNat := by rw [List.length_take]; omega
        have e : midOf 2 (pRst p m :: r) = (t.drop m.toNat).length := by
          rw [mid_cons, pMid_rst okp h0 h1 (by omega)]
          rw [hA, mid_cons] at ma
          rw [List.length_drop]
          omega
        have g := ih (t.drop m.toNat) g1 (by omega) e
        unfold rawC at g
        rcases kq with kq | kq | kq
        · rw [cut_1 okp kp, cut_1 okq kq]
          simp only [List.flatMap_cons, emC, List.cons_append, List.nil_append, if_true]
          rw [appl_k1 rfl, appl_k1 rfl, appl_k1 rfl, List.take_left' lt, List.drop_left' lt, g]
        · omega
        · rw [cut_1 okp kp, cut_3 okq kq]
          simp only [List.flatMap_cons, emC, List.cons_append, List.nil_append, if_true, Int.reduceEq, if_false]
          rw [appl_k1 rfl, appl_k3 rfl, appl_k3 rfl, List.drop_left' lt, g]
      · have sz := sz_2 okp kp
        have lt : (p.signs.take m.toNat).length = m.toNat := by rw [List.length_take]; omega
        have e : midOf 2 (pRst p m :: r) = t.length := by
          rw [mid_cons, pMid_rst0 okp h0 h1 kp]
          rw [hA, mid_cons] at ma
          omega
        have g := ih t g1 (by omega) e
        unfold rawC at g
        rcases kq with kq | kq | kq
        · rw [cut_2 okp kp, cut_1 okq kq]
          simp only [List.flatMap_cons, emC, List.cons_append, List.nil_append, if_true]
          rw [appl_k2 rfl, appl_k2 rfl, appl_k1 rfl, List.take_left' lt, List.drop_left' lt, g]
        · omega
        · rw [cut_2 okp kp, cut_3 okq kq]
          simp only [List.flatMap_cons, emC, List.nil_append, Int.reduceEq, if_false]
          rw [appl_k2 rfl, appl_k3 rfl, List.drop_left' lt, g]
      · omega

/-- What a composed change takes and gives. -/
theorem comp_mid : ∀ (n : Nat) {a b : List DPart}, J 3 a b → szs a + szs b ≤ n → midOf 2 (rawC a b) = midOf 2 a ∧ midOf 3 (rawC a b) = midOf 3 b := by
  intro n
  induction n with
  | zero =>
    intro a b h hz
    have n1 := szs_nn h.oa
    have n2 := szs_nn h.ob
    have z1 := zero_skp h.oa (by omega)
    have z2 := zero_skp h.ob (by omega)
    unfold rawC
    rw [tr_E z1 z2, ← mid_skp 2 a, ← mid_skp 3 b, z1, z2]
    exact ⟨rfl, rfl⟩
  | succ n ih =>
    intro a b h hz
    have ma := mid_skp 2 a
    have mb := mid_skp 3 b
    unfold rawC
    rcases tr_cases h with ⟨hA, hB, ht⟩ | ⟨p, r, hA, hk, ok, hl, g1, g2, ht⟩ | ⟨q, r, hB, hk, ok, hl, hA, g1, g2, ht⟩ | ⟨p, r, q, s, m, hA, hB, hk, hk2, okp, okq, hl, hl2, hn, h0, h1, h2, g1, g2, ht⟩ <;> rw [ht]
    · rw [← ma, ← mb, hA, hB]; exact ⟨rfl, rfl⟩
    · have b1 := pSz_bd ok
      have g := ih g1 (by omega)
      unfold rawC at g
      rw [mid_cons, pMid_rst ok b1.1 (Int.le_refl _) (by omega), pMid_n (by omega)] at g
      rw [hA, mid_cons, pMid_n (by omega)] at ma
      rw [cut_3 ok hk]
      simp only [List.flatMap_cons, emC, List.cons_append, List.nil_append, mid_cons]
      rw [show pMid 2 ⟨3, pSz p, []⟩ = pSz p by simp [pMid, pSz], show pMid 3 ⟨3, pSz p, []⟩ = 0 by simp [pMid]]
      omega
    · have b1 := pSz_bd ok
      have g := ih g1 (by omega)
      unfold rawC at g
      rw [mid_cons, pMid_rst ok b1.1 (Int.le_refl _) (by omega), pMid_n (by omega)] at g
      rw [hB, mid_cons, pMid_n (by omega)] at mb
      have sz := sz_2 ok hk
      rw [cut_2w ok hk]
      simp only [List.flatMap_cons, emC, List.cons_append, List.nil_append, mid_cons]
      rw [show pMid 2 ⟨2, 0, q.signs⟩ = 0 by simp [pMid], show pMid 3 ⟨2, 0, q.signs⟩ = q.signs.length by simp [pMid, pSz]]
      omega
    · have kp := kind_3 okp
      have kq := kind_3 okq
      have g := ih g1 (by omega)
      unfold rawC at g
      rw [hA, mid_cons] at ma
      rw [hB, mid_cons] at mb
      have s1 : ∀ (f n : Int) (hf : f ≠ 1), pMid f ⟨1, n, []⟩ = n := fun f n hf => by simp [pMid, pSz, show (1 : Int) ≠ f by omega]
      have s2 : pMid 3 ⟨2, 0, p.signs.take m.toNat⟩ = (p.signs.take m.toNat).length := by simp [pMid, pSz]
      have s3 : pMid 2 ⟨2, 0, p.signs.take m.toNat⟩ = 0 := by simp [pMid]
      have s4 : pMid 2 ⟨3, m, []⟩ = m := by simp [pMid, pSz]
      have s5 : pMid 3 ⟨3, m, []⟩ = 0 := by simp [pMid]
      rw [mid_cons, mid_cons] at g
      rcases kp with kp | kp | kp
      · rw [pMid_n (by omega)] at ma
        rw [pMid_rst okp h0 h1 (by omega), pMid_n (by omega)] at g
        rcases kq with kq | kq | kq
        · rw [pMid_n (by omega)] at mb
          rw [pMid_rst okq h0 h2 (by omega), pMid_n (by omega)] at g
          rw [cut_1 okp kp, cut_1 okq kq]
          simp only [List.flatMap_cons, emC, List.cons_append, List.nil_append, if_true, mid_cons, s1 2 _ (by omega), s1 3 _ (by omega)]
          omega
        · omega
        · rw [pMid_f kq] at mb
          rw [pMid_rst0 okq h0 h2 kq, pMid_f kq] at g
          rw [cut_1 okp kp, cut_3 okq kq]
          simp only [List.flatMap_cons, emC, List.cons_append, List.nil_append, if_true, Int.reduceEq, if_false, mid_cons, s4, s5]
          omega
      · rw [pMid_f kp] at ma
        rw [pMid_rst0 okp h0 h1 kp, pMid_f kp] at g
        have sz := sz_2 okp kp
        have lt : (p.signs.take m.toNat).length = m.toNat := by rw [List.length_take]; omega
        rcases kq with kq | kq | kq
        · rw [pMid_n (by omega)] at mb
          rw [pMid_rst okq h0 h2 (by omega), pMid_n (by omega)] at g
          rw [cut_2 okp kp, cut_1 okq kq]
          simp only [List.flatMap_cons, emC, List.cons_append, List.nil_append, if_true, mid_cons, s2, s3]
          omega
        · omega
        · rw [pMid_f kq] at mb
          rw [pMid_rst0 okq h0 h2 kq, pMid_f kq] at g
          rw [cut_2 okp kp, cut_3 okq kq]
          simp only [List.flatMap_cons, emC, List.nil_append, Int.reduceEq, if_false]
          omega
      · omega
end Go.Proofs.YtlgmikaemfbmaaaGreat
