/- The least difference is the least: FnDiff. No condition. -/
import Derived.Test.YthnnhoabdhhkaaaMi
import Derived.Test.YthnnhoabdhhkaaaMk
import Derived.Test.YthnnhoabdhhkaaaMq
import Derived.Test.YthnnhoabdhhkaaaL3
namespace Go.Proofs.Ythnnhoabdhhkaaa

theorem lcs_max : ∀ (n : Nat) (a b l : List Int), a.length + b.length ≤ n → l.Sublist a → l.Sublist b → (l.length : Int) ≤ lcs a b
  | _, [], b, l, _, h1, _ => by rw [List.sublist_nil.1 h1, lcs_nilL]; simp
  | _, x :: a, [], l, _, _, h2 => by rw [List.sublist_nil.1 h2, lcs_nilR]; simp
  | 0, x :: a, y :: b, l, h, _, _ => by simp at h
  | n + 1, x :: a, y :: b, l, h, h1, h2 => by
    simp only [List.length_cons] at h
    rw [lcs_cons]
    have g := lcs_bd _ a b (Nat.le_refl _)
    cases l with
    | nil =>
      have g2 := lcs_bd _ a (y :: b) (Nat.le_refl _)
      split
      · simp only [List.length_nil]; omega
      · simp only [List.length_nil]; omega
    | cons z l =>
      by_cases hxy : x = y
      · rw [if_pos hxy]
        have t1 : l.Sublist a := by
          rcases List.sublist_cons_iff.1 h1 with h | ⟨r, hr, h⟩
          · exact (List.sublist_cons_self z l).trans h
          · cases hr; exact h
        have t2 : l.Sublist b := by
          rcases List.sublist_cons_iff.1 h2 with h | ⟨r, hr, h⟩
          · exact (List.sublist_cons_self z l).trans h
          · cases hr; exact h
        have := lcs_max n a b l (by omega) t1 t2
        simp only [List.length_cons]; omega
      · rw [if_neg hxy]
        rcases List.sublist_cons_iff.1 h1 with h3 | ⟨r, hr, h3⟩
        · have := lcs_max n a (y :: b) (z :: l) (by simp only [List.length_cons]; omega) h3 h2
          omega
        · cases hr
          rcases List.sublist_cons_iff.1 h2 with h4 | ⟨r, hr, h4⟩
          · have := lcs_max n _ b _ (by simp only [List.length_cons]; omega) h1 h4
            omega
          · cases hr; exact absurd rfl hxy
theorem comm_sub : ∀ (n : Nat) (a b : List Int), a.length + b.length ≤ n → (comm a b).Sublist a ∧ (comm a b).Sublist b
  | _, [], [], _ => by rw [comm]; simp
  | 0, x :: a, b, h => by simp at h
  | 0, [], y :: b, h => by simp at h
  | n + 1, x :: a, [], h => by
    simp only [List.length_cons, List.length_nil] at h
    have := comm_sub n a [] (by simp; omega)
    rw [comm]; exact ⟨this.1.trans (List.sublist_cons_self x a), this.2⟩
  | n + 1, [], y :: b, h => by
    simp only [List.length_cons, List.length_nil] at h
    have := comm_sub n [] b (by simp; omega)
    rw [comm]; exact ⟨this.1, this.2.trans (List.sublist_cons_self y b)⟩
  | n + 1, x :: a, y :: b, h => by
    simp only [List.length_cons] at h
    have h1 := comm_sub n a b (by omega)
    have h2 := comm_sub n a (y :: b) (by simp only [List.length_cons]; omega)
    have h3 := comm_sub n (x :: a) b (by simp only [List.length_cons]; omega)
    rw [comm]
    split
    · rename_i e; subst e; exact ⟨h1.1.cons_cons x, h1.2.cons_cons x⟩
    · split
      · exact ⟨h2.1.trans (List.sublist_cons_self x a), h2.2⟩
      · exact ⟨h3.1, h3.2.trans (List.sublist_cons_self y b)⟩
theorem lcs_le_of (a b c d : List Int) (h : ∀ l : List Int, l.Sublist a → l.Sublist b → ∃ m : List Int, m.length = l.length ∧ m.Sublist c ∧ m.Sublist d) : lcs a b ≤ lcs c d := by
  have h1 := (comm_len _ a b (Nat.le_refl _)).2.2
  obtain ⟨h2, h3⟩ := comm_sub _ a b (Nat.le_refl _)
  obtain ⟨m, h4, h5, h6⟩ := h _ h2 h3
  have h7 := lcs_max _ c d m (Nat.le_refl _) h5 h6
  omega
theorem lcs_symm (a b : List Int) : lcs a b = lcs b a := Int.le_antisymm (lcs_le_of _ _ _ _ fun l h1 h2 => ⟨l, rfl, h2, h1⟩) (lcs_le_of _ _ _ _ fun l h1 h2 => ⟨l, rfl, h2, h1⟩)
theorem lcs_rev (a b : List Int) : lcs a.reverse b.reverse = lcs a b := Int.le_antisymm (lcs_le_of _ _ _ _ fun l h1 h2 => ⟨l.reverse, by simp, by simpa using h1.reverse, by simpa using h2.reverse⟩) (lcs_le_of _ _ _ _ fun l h1 h2 => ⟨l.reverse, by simp, h1.reverse, h2.reverse⟩)
theorem lcs_snoc (p q : List Int) (x y : Int) : lcs (p ++ [x]) (q ++ [y]) = if x = y then lcs p q + 1 else max (lcs p (q ++ [y])) (lcs (p ++ [x]) q) := by
  rw [← lcs_rev (p ++ [x]) (q ++ [y]), List.reverse_append, List.reverse_append, List.reverse_singleton, List.reverse_singleton, List.singleton_append, List.singleton_append, lcs_cons, lcs_rev]
  have e1 : lcs p.reverse (y :: q.reverse) = lcs p (q ++ [y]) := by rw [← lcs_rev p (q ++ [y])]; simp
  have e2 : lcs (x :: p.reverse) q.reverse = lcs (p ++ [x]) q := by rw [← lcs_rev (p ++ [x]) q]; simp
  rw [e1, e2]
theorem take_snoc' {l : List Int} {k : Nat} (h : k < l.length) : l.take (k + 1) = l.take k ++ [el l k] := by
  rw [List.take_add_one, List.getElem?_eq_getElem h, el_eq h]; rfl

def Row (a b : List Int) (k j : Nat) (r : List Int) : Prop := r.length = b.length + 1 ∧ ∀ i, i ≤ b.length → el r i = if i ≤ j then lcs (a.take (k + 1)) (b.take i) else lcs (a.take k) (b.take i)
theorem long_in {a b : List Int} {k : Nat} (hk : k < a.length) (hb : b.length ≤ 1000) (ha : a.length ≤ 1000) {r : List Int} (h : Row a b k 0 r) :
    ∃ y, eachN (x_laws_longest_f1 a k b) (fun (s : Int × List Int) => (s.2 : List Int)) b.length 0 (0, r) = some y ∧ Row a b k b.length y := by
  refine each_ex (F := x_laws_longest_f1 a k b) (e := fun (s : Int × List Int) => s.2) b (fun q j s => s.1 = lcs (a.take k) (b.take j) ∧ Row a b k j s.2) (fun _ _ _ y => Row a b k b.length y) (fun s hP => hP.2) (fun x q j s hj hx hP => ?_) (0, r) ⟨by simp [lcs_nilR], h⟩
  obtain ⟨last, r⟩ := s
  obtain ⟨h1, h2, h3⟩ := hP
  simp only at h1 h2 h3
  have g1 := h3 j (by omega)
  have g2 := h3 (j + 1) (by omega)
  rw [if_pos (Nat.le_refl _)] at g1
  rw [if_neg (by omega)] at g2
  have e1 : ((j : Int) + 1).toNat = j + 1 := by omega
  have bd : 0 ≤ last ∧ last ≤ 3000 := by
    have := lcs_bd 3000 (a.take k) (b.take j) (by simp; omega)
    omega
  have hs := lcs_snoc (a.take k) (b.take j) (el a k) (el b j)
  rw [← take_snoc' hk, ← take_snoc' hj] at hs
  have hset : ∀ v, v = lcs (a.take (k + 1)) (b.take (j + 1)) → Row a b k (j + 1) (r.set (j + 1) v) := fun v hv => ⟨by simp [h2], fun i hi => by
    by_cases hij : i = j + 1
    · subst hij
      rw [el_set (by omega), if_pos (Nat.le_refl _), hv]
    · rw [el_set_ne (by omega), h3 i hi]
      by_cases hi2 : i ≤ j
      · rw [if_pos hi2, if_pos (by omega)]
      · rw [if_neg hi2, if_neg (by omega)]⟩
  unfold x_laws_longest_f1 x_laws_longest_b1
  rw [hx]
  rw [hx] at hs
  simp only [e1]
  rw [xg_of ⟨by omega, by omega⟩]
  refine .inl ?_
  by_cases hxy : el a k = x
  · rw [if_pos hxy] at hs
    rw [cd_t hxy, xg_I (by omega) (by omega), xg_of ⟨by omega, by omega⟩]
    exact ⟨_, rfl, ⟨by simp only [g2], hset _ (by rw [hs, h1])⟩, fun y hy => hy⟩
  · rw [if_neg hxy] at hs
    rw [cd_f hxy, xg_of ⟨by omega, by omega⟩, xg_of ⟨by omega, by omega⟩]
    by_cases hlt : el r (j + 1) < el r j
    · rw [cd_t hlt, xg_of ⟨by omega, by omega⟩, xg_of ⟨by omega, by omega⟩]
      exact ⟨_, rfl, ⟨by simp only [g2], hset _ (by omega)⟩, fun y hy => hy⟩
    · rw [cd_f hlt]
      refine ⟨_, rfl, ⟨by simp only [g2], h2, fun i hi => ?_⟩, fun y hy => hy⟩
      by_cases hij : i = j + 1
      · subst hij
        rw [if_pos (Nat.le_refl _), g2]; omega
      · rw [h3 i hi]
        by_cases hi2 : i ≤ j
        · rw [if_pos hi2, if_pos (by omega)]
        · rw [if_neg hi2, if_neg (by omega)]
theorem l_longest (a b : List Int) (ha : a.length ≤ 1000) (hb : b.length ≤ 1000) : x_laws_longest a b = some (lcs a b) := by
  unfold x_laws_longest
  rw [xg_I (by omega) (by omega), xg_of ⟨by omega, by omega⟩, show ((b.length : Int) + 1).toNat = b.length + 1 by omega]
  obtain ⟨y, h1, h2, h3⟩ := each_ex (F := x_laws_longest_f0 a b) (e := fun (s : List Int) => s) a (fun q k s => s.length = b.length + 1 ∧ ∀ i, i ≤ b.length → el s i = lcs (a.take k) (b.take i)) (fun _ _ _ y => y.length = b.length + 1 ∧ ∀ i, i ≤ b.length → el y i = lcs a (b.take i)) (fun s hP => by simpa using hP) (fun x q k s hk hx hP => by
    obtain ⟨g1, g2⟩ := hP
    obtain ⟨y, h1, h2, h3⟩ := long_in (b := b) hk hb ha (r := s) ⟨g1, fun i hi => by
      by_cases h0 : i ≤ 0
      · have : i = 0 := by omega
        subst this
        rw [if_pos h0, g2 0 hi]; simp [lcs_nilR]
      · rw [if_neg h0, g2 i hi]⟩
    unfold x_laws_longest_f0 x_laws_longest_b0
    rw [h1, Option.bind_some]
    exact .inl ⟨_, rfl, ⟨h2, fun i hi => by rw [h3 i hi, if_pos hi]⟩, fun y hy => hy⟩) (List.replicate (b.length + 1) 0) ⟨by simp, fun i hi => by rw [el_rep (by omega)]; simp [lcs_nilL]⟩
  rw [h1, Option.bind_some, xg_of ⟨by omega, by omega⟩, Int.toNat_natCast, h3 _ (Nat.le_refl _), List.take_length]

-- Both ends are kept
theorem bet_first (a b : List Int) (ha : a.length ≤ 1000) : ∃ y : Int, iter (x_impl_Between_f0 a b) 0 = some y ∧ (0 ≤ y ∧ y ≤ a.length ∧ y ≤ b.length) ∧ a.take y.toNat = b.take y.toNat := by
  refine iter_ex (f := x_impl_Between_f0 a b) (fun s => (0 ≤ s ∧ s ≤ a.length ∧ s ≤ b.length) ∧ a.take s.toNat = b.take s.toNat) (fun s => ((a.length : Int) - s).toNat) (fun y => (0 ≤ y ∧ y ≤ a.length ∧ y ≤ b.length) ∧ a.take y.toNat = b.take y.toNat) (fun s hP => ?_) 0 ⟨⟨by omega, by omega, by omega⟩, rfl⟩
  obtain ⟨⟨h1, h2, h3⟩, h4⟩ := hP
  obtain ⟨k, rfl⟩ := Int.eq_ofNat_of_zero_le h1
  unfold x_impl_Between_f0 x_impl_Between_b0
  by_cases hc : (k : Int) < (a.length : Int) ∧ (k : Int) < (b.length : Int)
  · rw [cd_t hc.1, Option.bind_some, decide_eq_true hc.2, cd_T, xg_of ⟨by omega, by omega⟩, xg_of ⟨by omega, by omega⟩, Option.bind_some, Int.toNat_natCast]
    by_cases he : el a k = el b k
    · rw [cd_t he, xg_I (by omega) (by omega)]
      refine .inl ⟨_, rfl, ⟨⟨by omega, by omega, by omega⟩, ?_⟩, by omega⟩
      rw [show ((k : Int) + 1).toNat = k + 1 by omega, take_snoc' (by omega), take_snoc' (by omega), he]
      rw [Int.toNat_natCast] at h4
      rw [h4]
    · rw [cd_f he]; exact .inr ⟨_, rfl, ⟨h1, h2, h3⟩, h4⟩
  · have : (bif decide ((k : Int) < (a.length : Int)) then some (decide ((k : Int) < (b.length : Int))) else some false) = some false := by
      by_cases g : (k : Int) < (a.length : Int)
      · rw [cd_t g, decide_eq_false (fun g2 => hc ⟨g, g2⟩)]
      · rw [cd_f g]
    rw [this]
    exact .inr ⟨_, rfl, ⟨h1, h2, h3⟩, h4⟩
theorem bet_second (a b : List Int) (n : Int) (_hn : 0 ≤ n) (ha : a.length ≤ 1000) (hb : b.length ≤ 1000) : ∃ y : Int, iter (x_impl_Between_f1 a n b) 0 = some y ∧ (0 ≤ y ∧ y ≤ (a.drop n.toNat).length ∧ y ≤ (b.drop n.toNat).length) ∧ (a.drop n.toNat).drop ((a.drop n.toNat).length - y.toNat) = (b.drop n.toNat).drop ((b.drop n.toNat).length - y.toNat) := by
  have e1 : (a.take a.length).drop n.toNat = a.drop n.toNat := by rw [List.take_length]
  have e2 : (b.take b.length).drop n.toNat = b.drop n.toNat := by rw [List.take_length]
  have l1 : (a.drop n.toNat).length ≤ 1000 := by simp; omega
  have l2 : (b.drop n.toNat).length ≤ 1000 := by simp; omega
  generalize hA : a.drop n.toNat = A at *
  generalize hB : b.drop n.toNat = B at *
  refine iter_ex (f := x_impl_Between_f1 a n b) (fun s => (0 ≤ s ∧ s ≤ A.length ∧ s ≤ B.length) ∧ A.drop (A.length - s.toNat) = B.drop (B.length - s.toNat)) (fun s => ((A.length : Int) - s).toNat) (fun y => (0 ≤ y ∧ y ≤ A.length ∧ y ≤ B.length) ∧ A.drop (A.length - y.toNat) = B.drop (B.length - y.toNat)) (fun s hP => ?_) 0 ⟨⟨by omega, by omega, by omega⟩, by simp⟩
  obtain ⟨⟨h1, h2, h3⟩, h4⟩ := hP
  obtain ⟨k, rfl⟩ := Int.eq_ofNat_of_zero_le h1
  unfold x_impl_Between_f1 x_impl_Between_b1
  rw [e1, e2]
  by_cases hc : (k : Int) < (A.length : Int) ∧ (k : Int) < (B.length : Int)
  · rw [cd_t hc.1, Option.bind_some, decide_eq_true hc.2, cd_T, xg_I (by omega) (by omega), xg_I (by omega) (by omega), xg_of ⟨by omega, by omega⟩, xg_I (by omega) (by omega), xg_I (by omega) (by omega), xg_of ⟨by omega, by omega⟩, Option.bind_some]
    have i1 : ((A.length : Int) - 1 - (k : Int)).toNat = A.length - (k + 1) := by omega
    have i2 : ((B.length : Int) - 1 - (k : Int)).toNat = B.length - (k + 1) := by omega
    rw [i1, i2]
    by_cases he : el A (A.length - (k + 1)) = el B (B.length - (k + 1))
    · rw [cd_t he, xg_I (by omega) (by omega)]
      refine .inl ⟨_, rfl, ⟨⟨by omega, by omega, by omega⟩, ?_⟩, by omega⟩
      rw [Int.toNat_natCast] at h4
      rw [show ((k : Int) + 1).toNat = k + 1 by omega, drop_el (l := A) (i := A.length - (k + 1)) (by omega), drop_el (l := B) (i := B.length - (k + 1)) (by omega), he, show A.length - (k + 1) + 1 = A.length - k by omega, show B.length - (k + 1) + 1 = B.length - k by omega, h4]
    · rw [cd_f he]; exact .inr ⟨_, rfl, ⟨h1, h2, h3⟩, h4⟩
  · have : (bif decide ((k : Int) < (A.length : Int)) then some (decide ((k : Int) < (B.length : Int))) else some false) = some false := by
      by_cases g : (k : Int) < (A.length : Int)
      · rw [cd_t g, decide_eq_false (fun g2 => hc ⟨g, g2⟩)]
      · rw [cd_f g]
    rw [this]
    exact .inr ⟨_, rfl, ⟨h1, h2, h3⟩, h4⟩
theorem all_drop {l : List Int} (h : l.all okSign = true) (k : Nat) : (l.drop k).all okSign = true := List.all_eq_true.2 fun x hx => List.all_eq_true.1 h x (List.mem_of_mem_drop hx)
theorem all_take {l : List Int} (h : l.all okSign = true) (k : Nat) : (l.take k).all okSign = true := List.all_eq_true.2 fun x hx => List.all_eq_true.1 h x (List.mem_of_mem_take hx)
theorem okText_all {t : List Int} (h : okText t = true) : t.all okSign = true := by
  unfold okText at h
  simp only [Bool.and_eq_true] at h
  exact h.2
theorem i_Between (a b : List Int) (ha : okText a = true) (hb : okText b = true) : ∃ w, x_impl_Between a b = some (w, true) ∧ okOp w = true ∧ fromOf w = a.length ∧ appl w a = b ∧ (a.length : Int) + b.length - 2 * lcs a b ≤ putsOf w + dropsOf w := by
  have la := okText_len ha; have lb := okText_len hb
  unfold x_impl_Between
  simp only [i_TextOk, ha, hb, Option.bind_some, cs_, co_, Bool.not_true, Bool.or_false, cond_false]
  obtain ⟨n, h1, h2, h3⟩ := bet_first a b (by omega)
  obtain ⟨k, h4, h5, h6⟩ := bet_second a b n h2.1 (by omega) (by omega)
  obtain ⟨n, rfl⟩ := Int.eq_ofNat_of_zero_le h2.1
  obtain ⟨k, rfl⟩ := Int.eq_ofNat_of_zero_le h5.1
  simp only [Int.toNat_natCast] at *
  rw [h1, Option.bind_some, xg_of ⟨by omega, by omega⟩, xg_of ⟨by omega, by omega⟩, h4, Option.bind_some]
  simp only [List.take_length, List.drop_zero, Int.toNat_natCast]
  have e1 : (a.drop n).length = a.length - n := by simp
  have e2 : (b.drop n).length = b.length - n := by simp
  rw [e1, e2] at h5 h6 ⊢
  have e3 : (((b.length - n : Nat) : Int) - (k : Int)).toNat = b.length - n - k := by omega
  rw [xg_I (by omega) (by omega), xg_of ⟨by omega, by omega⟩, xg_I (by omega) (by omega), e3, i_OpNorm]
  have lp : ((b.drop n).take (b.length - n - k)).length = b.length - n - k := by simp
  have hs := all_take (all_drop (okText_all hb) n) (b.length - n - k)
  have hsum : ∀ f : DPart → Int, sumI f [⟨1, (n : Int), []⟩, ⟨2, 0, (b.drop n).take (b.length - n - k)⟩, ⟨3, ((a.length - n : Nat) : Int) - (k : Int), []⟩, ⟨1, (k : Int), []⟩] = f ⟨1, (n : Int), []⟩ + (f ⟨2, 0, (b.drop n).take (b.length - n - k)⟩ + (f ⟨3, ((a.length - n : Nat) : Int) - (k : Int), []⟩ + (f ⟨1, (k : Int), []⟩ + 0))) := fun _ => rfl
  have hf : fromOf [⟨1, (n : Int), []⟩, ⟨2, 0, (b.drop n).take (b.length - n - k)⟩, ⟨3, ((a.length - n : Nat) : Int) - (k : Int), []⟩, ⟨1, (k : Int), []⟩] = a.length := by unfold fromOf; rw [hsum]; simp [pFrom, pKeep, pDrop]; omega
  have ht : toOf [⟨1, (n : Int), []⟩, ⟨2, 0, (b.drop n).take (b.length - n - k)⟩, ⟨3, ((a.length - n : Nat) : Int) - (k : Int), []⟩, ⟨1, (k : Int), []⟩] = b.length := by unfold toOf; rw [hsum]; simp only [pTo, pKeep, pPut, lp]; simp; omega
  have hok : okOp [⟨1, (n : Int), []⟩, ⟨2, 0, (b.drop n).take (b.length - n - k)⟩, ⟨3, ((a.length - n : Nat) : Int) - (k : Int), []⟩, ⟨1, (k : Int), []⟩] = true := by
    unfold okOp okParts
    rw [hf, ht]
    simp only [List.all_cons, List.all_nil, okPart, hs, lp]
    simp; omega
  have hk := okOp_kinds hok
  rw [hok]
  refine ⟨_, rfl, okOp_nrm hok, by simp only [if_true]; rw [from_nrm hk, hf], ?_, ?_⟩
  · simp only [if_true]
    rw [appl_nrm hk]
    simp [appl]
    rw [h3, ← List.drop_drop, h6]
    have e5 : ((b.drop n).drop (b.length - n - k)).take k = (b.drop n).drop (b.length - n - k) := List.take_of_length_le (by simp; omega)
    rw [e5, List.take_append_drop, List.take_append_drop]
  · simp only [if_true]
    have hm := sums_nrm hk
    have hp : putsOf [⟨1, (n : Int), []⟩, ⟨2, 0, (b.drop n).take (b.length - n - k)⟩, ⟨3, ((a.length - n : Nat) : Int) - (k : Int), []⟩, ⟨1, (k : Int), []⟩] = b.length - n - k := by unfold putsOf; rw [hsum]; simp only [pPut, lp]; simp; omega
    have hd : dropsOf [⟨1, (n : Int), []⟩, ⟨2, 0, (b.drop n).take (b.length - n - k)⟩, ⟨3, ((a.length - n : Nat) : Int) - (k : Int), []⟩, ⟨1, (k : Int), []⟩] = a.length - n - k := by unfold dropsOf; rw [hsum]; simp [pDrop]; omega
    have hc := lcs_max _ a b (a.take n ++ (a.drop n).drop (a.length - n - k)) (Nat.le_refl _) (by
      conv => rhs; rw [← List.take_append_drop n a]
      exact (List.Sublist.refl _).append (List.drop_sublist _ _)) (by
      rw [h3, h6]
      conv => rhs; rw [← List.take_append_drop n b]
      exact (List.Sublist.refl _).append (List.drop_sublist _ _))
    simp only [List.length_append, List.length_take, List.length_drop] at hc
    rw [hm.2.1, hm.2.2, hp, hd]; omega

theorem dparts_cost (a b : List Int) : putsOf (dparts a b) + dropsOf (dparts a b) = (a.length : Int) + b.length - 2 * (comm a b).length ∧ putsOf (dparts a b) + dropsOf (dparts a b) ≤ 1000000 + (a.length : Int) + b.length := by
  have h1 := dparts_sum a b
  rw [sum_from, sum_to] at h1
  have h2 : ∀ (n : Nat) (a b : List Int), a.length + b.length ≤ n → keepsOf (dparts a b) = (comm a b).length := by
    intro n
    induction n with
    | zero =>
      intro a b h
      have ha : a = [] := List.eq_nil_of_length_eq_zero (by omega)
      have hb : b = [] := List.eq_nil_of_length_eq_zero (by omega)
      subst ha; subst hb
      rw [dparts, comm]; rfl
    | succ n ih =>
      intro a b h
      have step : ∀ (p : DPart) (l : List DPart), keepsOf (p :: l) = pKeep p + keepsOf l := fun _ _ => rfl
      cases a with
      | nil =>
        cases b with
        | nil => rw [dparts, comm]; rfl
        | cons y b => simp only [List.length_cons, List.length_nil] at h; rw [dparts, comm, step, ih [] b (by simp; omega)]; simp [pKeep]
      | cons x a =>
        cases b with
        | nil => simp only [List.length_cons, List.length_nil] at h; rw [dparts, comm, step, ih a [] (by simp; omega)]; simp [pKeep]
        | cons y b =>
          simp only [List.length_cons] at h
          rw [dparts, comm]
          split
          · rw [step, ih a b (by omega)]; simp [pKeep]; omega
          · split
            · rw [step, ih a (y :: b) (by simp only [List.length_cons]; omega)]; simp [pKeep]
            · rw [step, ih (x :: a) b (by simp only [List.length_cons]; omega)]; simp [pKeep]
  have h3 := h2 _ a b (Nat.le_refl _)
  omega
theorem near_fact {a b : List Int} (h : okDiff a b = true) : (0 ≤ near a b ∧ near a b ≤ 100) ∧ (near a b = 100 ↔ a = b) := by
  have h3 := comm_len _ a b (Nat.le_refl _)
  obtain ⟨s1, s2⟩ := comm_sub _ a b (Nat.le_refl _)
  unfold near
  rw [if_pos h]
  by_cases h0 : (a.length : Int) + b.length = 0
  · rw [if_pos h0]
    have ha : a = [] := List.eq_nil_of_length_eq_zero (by omega)
    have hb : b = [] := List.eq_nil_of_length_eq_zero (by omega)
    subst ha; subst hb
    simp
  · rw [if_neg h0]
    have hp : 0 < (a.length : Int) + b.length := by omega
    have k1 : 200 * ((comm a b).length : Int) ≤ 100 * ((a.length : Int) + b.length) := by omega
    have k2 : 200 * ((comm a b).length : Int) / ((a.length : Int) + b.length) ≤ 100 := Int.ediv_le_of_le_mul hp k1
    refine ⟨⟨Int.ediv_nonneg (by omega) (by omega), k2⟩, fun he => ?_, fun he => ?_⟩
    · have k3 := (Int.le_ediv_iff_mul_le (a := 100) (b := 200 * ((comm a b).length : Int)) hp).1 (by omega)
      have e1 : comm a b = a := s1.eq_of_length (by omega)
      have e2 : comm a b = b := s2.eq_of_length (by omega)
      rw [← e1, e2]
    · subst he
      have k4 := lcs_max _ a a a (Nat.le_refl _) (List.Sublist.refl _) (List.Sublist.refl _)
      have k3 := (Int.le_ediv_iff_mul_le (a := 100) (b := 200 * ((comm a a).length : Int)) hp).2 (by omega)
      omega
theorem i_Sparse {o : List DPart} (h : okOp o = true) : x_impl_Sparse o = some (putsOf o + dropsOf o) := by
  have hb := okOp_all h
  unfold x_impl_Sparse
  rw [i_Puts, h, Option.bind_some, i_Drops, h, Option.bind_some]
  simp only [if_true]
  rw [xg_I (by omega) (by omega)]
theorem math_FnDiff (code : List UInt8) (_ : wfL wfY code) : x_laws_FnDiff code = some true := by
  unfold x_laws_FnDiff
  by_cases hl : (1048576 : Int) < (code.length : Int)
  · rw [cd_t hl]
  rw [cd_f hl]
  obtain ⟨a, a1, a2, a3⟩ := s_MakeText code 1 (by omega) (by decide)
  obtain ⟨b, b1, b2, b3⟩ := s_MakeText code 2 (by omega) (by decide)
  obtain ⟨w, w1, w2, w3, w4, w5⟩ := i_Between a b a3 b3
  have hd : okDiff a b = true := by unfold okDiff; rw [a3, b3]; simp; omega
  have hd2 : okDiff b a = true := by unfold okDiff; rw [a3, b3]; simp; omega
  have ho := dparts_op hd
  have hk := okOp_kinds ho
  have hn := okOp_nrm ho
  have f1 : fits (nrm (dparts a b)) a = true := by unfold fits; rw [hn, a3, from_nrm hk, (dparts_sum a b).1]; simp
  have f2 : fits w a = true := by unfold fits; rw [w2, a3, w3]; simp
  have g1 : appl (nrm (dparts a b)) a = b := by rw [appl_nrm hk, dparts_appl]
  have c1 := comm_len _ a b (Nat.le_refl _)
  have c2 := comm_len _ b a (Nat.le_refl _)
  have c3 := lcs_symm a b
  have c4 := dparts_cost a b
  have c5 := sums_nrm hk
  have sp : x_impl_Sparse (nrm (dparts a b)) = some ((a.length : Int) + b.length - 2 * (comm a b).length) := by rw [i_Sparse hn, c5.2.1, c5.2.2, c4.1]
  obtain ⟨n1, n2⟩ := near_fact hd
  have e0 := okOp_all w2
  rw [a1, Option.bind_some, b1, Option.bind_some, i_Diff, hd]
  simp only [Option.bind_some, if_true]
  rw [w1, Option.bind_some, i_Apply, f1, Option.bind_some]
  simp only [if_true]
  rw [i_Apply, f2, Option.bind_some, i_Common, hd, Option.bind_some, i_Common, hd2, Option.bind_some]
  simp only [if_true, Bool.not_true, Option.bind_some, cond_false, i_SignsSame, g1, w4, decide_true]
  have q0 : decide (((comm a b).length : Int) = ((comm b a).length : Int)) = true := decide_eq_true (by omega)
  have q1 : decide (((comm a b).length : Int) = lcs a b) = true := decide_eq_true c1.2.2
  have q2 : decide ((a.length : Int) + b.length - 2 * (comm a b).length ≤ putsOf w + dropsOf w) = true := decide_eq_true (by omega)
  have q3 : decide (0 ≤ near a b) = true := decide_eq_true n1.1
  have q4 : decide (near a b ≤ 100) = true := decide_eq_true n1.2
  have x1 : ∀ X : Option Bool, xg (inI ((a.length : Int) + (b.length : Int))) X = X := fun X => xg_I (by omega) (by omega)
  have x2 : ∀ X : Option Bool, xg (inI (2 * ((comm a b).length : Int))) X = X := fun X => xg_I (by omega) (by omega)
  have x3 : ∀ X : Option Bool, xg (inI ((a.length : Int) + (b.length : Int) - 2 * ((comm a b).length : Int))) X = X := fun X => xg_I (by omega) (by omega)
  simp only [q0, l_longest a b (by omega) (by omega), Bool.not_true, Option.bind_some, cond_false, q1, i_Near, sp, i_Cost, i_Sparse w2, cost, hd, if_true, decide_true, cond_true, q2, x1, x2, x3, q3, q4]
  by_cases he : a = b
  · rw [decide_eq_true he, decide_eq_true (n2.2 he)]; rfl
  · rw [decide_eq_false he, decide_eq_false (fun h => he (n2.1 h))]; rfl
end Go.Proofs.Ythnnhoabdhhkaaa
