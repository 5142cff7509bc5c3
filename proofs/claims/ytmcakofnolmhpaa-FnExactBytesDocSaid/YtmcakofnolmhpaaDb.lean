/- Bytes read as numbers, operations and documents. No condition. -/
import Derived.Test.YtmcakofnolmhpaaDa
import Derived.Test.YtmcakofnolmhpaaD3
namespace Go.Proofs.Ytmcakofnolmhpaa

-- One number
def pw : Nat → Int
  | 0 => 1
  | 1 => 128
  | 2 => 16384
  | 3 => 2097152
  | 4 => 268435456
  | _ => 34359738368
def gl (b : List UInt8) (a : Nat) : Nat → Nat → Int → Sum Unit (Int × Int × Bool)
  | 0, _, _ => Sum.inl ()
  | f + 1, i, n =>
    if a + i < b.length then
      (if ((el b (a + i)).toNat : Int) < 128 then
        (if (((el b (a + i)).toNat : Int) = 0 ∧ 0 < i) ∨ 1114111000 < n + ((el b (a + i)).toNat : Int) % 128 * pw i then Sum.inr (0, 0, false) else Sum.inr (n + ((el b (a + i)).toNat : Int) % 128 * pw i, ((a + i + 1 : Nat) : Int), true))
      else gl b a f (i + 1) (n + ((el b (a + i)).toNat : Int) % 128 * pw i))
    else Sum.inl ()
def g3 (b : List UInt8) (a : Nat) : Int × Int × Bool := Sum.elim (fun _ => (0, 0, false)) (fun y => y) (gl b a 5 0 0)
theorem shl_pw {c : Int} (h0 : 0 ≤ c) (h1 : c < 128) : ∀ i : Nat, i < 5 → bShl c (7 * (i : Int)) = c * pw i
  | 0, _ => by unfold bShl; rw [i64_in (by simp; omega)]; simp [pw]
  | 1, _ => by unfold bShl; rw [i64_in (by simp; omega)]; simp [pw]
  | 2, _ => by unfold bShl; rw [i64_in (by simp; omega)]; simp [pw]
  | 3, _ => by unfold bShl; rw [i64_in (by simp; omega)]; simp [pw]
  | 4, _ => by unfold bShl; rw [i64_in (by simp; omega)]; simp [pw]
  | i + 5, h => by omega
theorem pw_next {c n : Int} (h0 : 0 ≤ c) (h1 : c < 128) (hn : 0 ≤ n) : ∀ i : Nat, i < 5 → n < pw i → (0 ≤ n + c * pw i ∧ n + c * pw i < pw (i + 1)) ∧ pw (i + 1) = pw i * 128 ∧ 0 ≤ c * pw i ∧ c * pw i ≤ 34359738368 ∧ 0 < pw i ∧ pw i ≤ 34359738368
  | 0, _, h => by simp only [pw] at *; omega
  | 1, _, h => by simp only [pw] at *; omega
  | 2, _, h => by simp only [pw] at *; omega
  | 3, _, h => by simp only [pw] at *; omega
  | 4, _, h => by simp only [pw] at *; omega
  | i + 5, h, _ => by omega
theorem pw_nn (i : Nat) : 0 ≤ pw i := by
  unfold pw
  split <;> omega
theorem gl_bd (b : List UInt8) (a : Nat) (f : Nat) : ∀ (i : Nat) (n : Int), 0 ≤ n → ∀ m k, gl b a f i n = Sum.inr (m, k, true) → (0 ≤ m ∧ m ≤ 1114111000) ∧ (a : Int) < k ∧ k ≤ b.length := by
  induction f with
  | zero => intro i n _ m k h; cases h
  | succ f ih =>
    intro i n hn m k h
    rw [gl] at h
    by_cases hl : a + i < b.length
    · rw [if_pos hl] at h
      have q0 : 0 ≤ ((el b (a + i)).toNat : Int) % 128 * pw i := Int.mul_nonneg (by omega) (pw_nn i)
      generalize ((el b (a + i)).toNat : Int) % 128 * pw i = q at h q0
      generalize ((el b (a + i)).toNat : Int) = c at h
      by_cases hc : c < 128
      · rw [if_pos hc] at h
        by_cases hz : (c = 0 ∧ 0 < i) ∨ 1114111000 < n + q
        · rw [if_pos hz] at h; cases h
        · rw [if_neg hz] at h
          simp only [Sum.inr.injEq, Prod.mk.injEq, and_true] at h
          obtain ⟨rfl, rfl⟩ := h
          exact ⟨⟨by omega, by omega⟩, by omega, by omega⟩
      · rw [if_neg hc] at h
        exact ih (i + 1) _ (by omega) m k h
    · rw [if_neg hl] at h; cases h
theorem i_GetNum {b : List UInt8} (hb : b.length ≤ 1048576) (a : Nat) (ha : a ≤ b.length) : x_impl_GetNum b (a : Int) = some (g3 b a) := by
  unfold x_impl_GetNum
  rw [xg_I (by omega) (by omega), i_within, Option.bind_some]
  by_cases h : a < b.length
  · rw [decide_eq_true (by omega), Bool.not_true, cd_F]
    have key := iter_go (f := x_impl_GetNum_f0 (a : Int) b) (fun s => (0 ≤ s.2 ∧ s.2 ≤ 5) ∧ 0 ≤ s.1 ∧ s.1 < pw s.2.toNat) (fun s => (5 - s.2).toNat) (fun s => gl b a (5 - s.2.toNat) s.2.toNat s.1) (fun s hP => by
      obtain ⟨n, i⟩ := s
      obtain ⟨⟨h1, h2⟩, h3, h4⟩ := hP
      simp only at h1 h2 h3 h4 ⊢
      obtain ⟨i, rfl⟩ := Int.eq_ofNat_of_zero_le h1
      rw [Int.toNat_natCast] at h4 ⊢
      unfold x_impl_GetNum_f0 x_impl_GetNum_b0
      simp only
      by_cases hi : (i : Int) < 5
      · rw [cd_t hi, xg_I (by omega) (by omega), Option.bind_some, show 5 - i = (4 - i) + 1 by omega, gl]
        by_cases hl : (a : Int) + i < b.length
        · have y1 := (el b (a + i)).toNat_lt
          have hc0 : 0 ≤ ((el b (a + i)).toNat : Int) % 128 := by omega
          have hc1 : ((el b (a + i)).toNat : Int) % 128 < 128 := by omega
          have w := pw_next hc0 hc1 h3 i (by omega) h4
          have e : ((a : Int) + i).toNat = a + i := by omega
          rw [decide_eq_true hl, cd_T, xg_I (by omega) (by omega), xg_of ⟨by omega, by omega⟩, e, xg_of ⟨by omega, by omega⟩, xg_I (by omega) (by omega), xg_of (by omega), shl_pw hc0 hc1 i (by omega), xg_I (by omega) (by omega), if_pos (by omega)]
          by_cases hs : ((el b (a + i)).toNat : Int) < 128
          · rw [cd_t hs, if_pos hs]
            refine .inr ?_
            by_cases hz : ((el b (a + i)).toNat : Int) = 0
            · rw [cd_t hz, Option.bind_some]
              by_cases hi0 : (0 : Int) < i
              · rw [cd_t hi0, Option.bind_some, cd_T, if_pos (.inl ⟨hz, by omega⟩)]
              · rw [cd_f hi0, Option.bind_some]
                by_cases hm : 1114111000 < n + ((el b (a + i)).toNat : Int) % 128 * pw i
                · rw [cd_t hm, if_pos (.inr hm)]
                · rw [cd_f hm, if_neg (by rintro (⟨_, k⟩ | k) <;> omega), xg_I (by omega) (by omega), xg_I (by omega) (by omega)]; rfl
            · rw [cd_f hz, Option.bind_some, cd_F, Option.bind_some]
              by_cases hm : 1114111000 < n + ((el b (a + i)).toNat : Int) % 128 * pw i
              · rw [cd_t hm, if_pos (.inr hm)]
              · rw [cd_f hm, if_neg (by rintro (⟨k, _⟩ | k) <;> omega), xg_I (by omega) (by omega), xg_I (by omega) (by omega)]; rfl
          · rw [cd_f hs, if_neg hs, xg_I (by omega) (by omega)]
            refine .inl ⟨_, rfl, ⟨⟨by simp only; omega, by simp only; omega⟩, by simp only; omega, ?_⟩, by simp only; omega, ?_⟩
            · simp only; rw [show ((i : Int) + 1).toNat = i + 1 by omega]; exact w.1.2
            · simp only; rw [show ((i : Int) + 1).toNat = i + 1 by omega, show 5 - (i + 1) = 4 - i by omega]
        · rw [decide_eq_false hl, cd_F, if_neg (by omega)]
          exact .inr rfl
      · rw [cd_f hi, Option.bind_some, cd_F, show 5 - i = 0 by omega]
        exact .inr rfl) (0, 0) ⟨⟨by simp, by simp⟩, by simp, by simp [pw]⟩
    rw [key]
    unfold g3
    simp only [Int.toNat_zero, Nat.sub_zero, Option.bind_some]
    cases gl b a 5 0 0 <;> rfl
  · rw [decide_eq_false (by omega)]
    unfold g3 gl
    rw [if_neg (by omega)]; rfl
theorem s_GetNum {b : List UInt8} (hb : b.length ≤ 1048576) (a : Nat) (ha : a ≤ b.length) : x_spec_GetNum b (a : Int) = some (g3 b a) := by
  unfold x_spec_GetNum
  rw [cd_f (by omega)]
  have key := iter_go (f := x_spec_GetNum_f0 b (a : Int)) (fun s => (0 ≤ s.2.2 - a ∧ s.2.2 - a ≤ 5) ∧ 0 ≤ s.1 ∧ s.1 < pw (s.2.2 - a).toNat ∧ s.2.1 = pw (s.2.2 - a).toNat) (fun s => (5 - (s.2.2 - a)).toNat) (fun s => gl b a (5 - (s.2.2 - a).toNat) (s.2.2 - a).toNat s.1) (fun s hP => by
    obtain ⟨n, f, j⟩ := s
    obtain ⟨⟨h1, h2⟩, h3, h4, h5⟩ := hP
    simp only at h1 h2 h3 h4 h5 ⊢
    obtain ⟨i, hi0⟩ := Int.eq_ofNat_of_zero_le h1
    obtain rfl : j = (a : Int) + i := by omega
    have ei : ((a : Int) + i - a).toNat = i := by omega
    rw [ei] at h4 h5
    rw [ei]
    subst h5
    unfold x_spec_GetNum_f0 x_spec_GetNum_b0
    simp only
    by_cases hl : (a : Int) + i < b.length
    · rw [cd_t hl, xg_I (by omega) (by omega), Option.bind_some]
      by_cases hi : (i : Int) < 5
      · have y1 := (el b (a + i)).toNat_lt
        have hc0 : 0 ≤ ((el b (a + i)).toNat : Int) % 128 := by omega
        have hc1 : ((el b (a + i)).toNat : Int) % 128 < 128 := by omega
        have w := pw_next hc0 hc1 h3 i (by omega) h4
        have e : ((a : Int) + i).toNat = a + i := by omega
        rw [cd_t (by omega), xg_of ⟨by omega, by omega⟩, e, xg_of ⟨by omega, by omega⟩, xg_I (by omega) (by omega), xg_I (by omega) (by omega), xg_I (by omega) (by omega), show 5 - i = (4 - i) + 1 by omega, gl, if_pos (by omega)]
        by_cases hs : ((el b (a + i)).toNat : Int) < 128
        · rw [cd_t hs, if_pos hs]
          refine .inr ?_
          by_cases hm : 1114111000 < n + ((el b (a + i)).toNat : Int) % 128 * pw i
          · rw [cd_t hm, Option.bind_some, cd_T, if_pos (.inr hm)]
          · rw [cd_f hm]
            by_cases hz : ((el b (a + i)).toNat : Int) = 0
            · rw [cd_t hz, Option.bind_some, Option.bind_some]
              by_cases hi0 : (a : Int) < a + i
              · rw [cd_t hi0, if_pos (.inl ⟨hz, by omega⟩)]
              · rw [cd_f hi0, if_neg (by rintro (⟨_, k⟩ | k) <;> omega), xg_I (by omega) (by omega)]; rfl
            · rw [cd_f hz, Option.bind_some, Option.bind_some, cd_F, if_neg (by rintro (⟨k, _⟩ | k) <;> omega), xg_I (by omega) (by omega)]; rfl
        · rw [cd_f hs, if_neg hs, xg_I (by omega) (by omega)]
          have e2 : ((a : Int) + i + 1 - a).toNat = i + 1 := by omega
          refine .inl ⟨_, rfl, ⟨⟨by simp only; omega, by simp only; omega⟩, by simp only; omega, ?_, ?_⟩, by simp only; omega, ?_⟩
          · simp only; rw [e2]; exact w.1.2
          · simp only; rw [e2]; exact w.2.1.symm
          · simp only; rw [e2, show 5 - (i + 1) = 4 - i by omega]
      · rw [cd_f (by omega), show 5 - i = 0 by omega]
        exact .inr rfl
    · rw [cd_f hl, Option.bind_some, cd_F]
      refine .inr ?_
      cases hk : 5 - i with
      | zero => rfl
      | succ k => rw [gl, if_neg (by omega)]) (0, 1, (a : Int)) ⟨⟨by simp, by simp⟩, by simp, by simp [pw], by simp [pw]⟩
  rw [key]
  unfold g3
  have e0 : ((a : Int) - a).toNat = 0 := by omega
  simp only [e0, Nat.sub_zero, Option.bind_some]
  cases gl b a 5 0 0 <;> rfl
/-- One number at a place. -/
def gN (b : List UInt8) (a : Int) : Option (Int × Int) := if (g3 b a.toNat).2.2 = true then some ((g3 b a.toNat).1, (g3 b a.toNat).2.1) else none
theorem g3_bd {b : List UInt8} {a : Nat} (h : (g3 b a).2.2 = true) : pn (g3 b a).1 ∧ (a : Int) < (g3 b a).2.1 ∧ (g3 b a).2.1 ≤ b.length := by
  unfold g3 at h ⊢
  cases hg : gl b a 5 0 0 with
  | inl u => rw [hg] at h; cases h
  | inr y =>
    obtain ⟨m, k, t⟩ := y
    rw [hg] at h
    simp only [Sum.elim_inr] at h
    subst h
    exact gl_bd b a 5 0 0 (Int.le_refl _) m k hg
theorem g3_no {b : List UInt8} {a : Nat} (h : (g3 b a).2.2 = false) : g3 b a = (0, 0, false) := by
  unfold g3 at h ⊢
  have key : ∀ (f i : Nat) (n : Int), Sum.elim (fun _ => ((0, 0, false) : Int × Int × Bool)) (fun y => y) (gl b a f i n) = (0, 0, false) ∨ (Sum.elim (fun _ => ((0, 0, false) : Int × Int × Bool)) (fun y => y) (gl b a f i n)).2.2 = true := by
    intro f
    induction f with
    | zero => intro i n; exact .inl rfl
    | succ f ih =>
      intro i n
      unfold gl
      split
      · split
        · split
          · exact .inl rfl
          · exact .inr rfl
        · exact ih _ _
      · exact .inl rfl
  rcases key 5 0 0 with k | k
  · exact k
  · rw [h] at k; cases k
end Go.Proofs.Ytmcakofnolmhpaa
