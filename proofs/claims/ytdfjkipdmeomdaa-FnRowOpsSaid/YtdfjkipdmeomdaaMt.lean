/- Where an operation touches a text; clashes; operations at one place. No condition. -/
import Derived.Test.YtdfjkipdmeomdaaMk
import Derived.Test.YtdfjkipdmeomdaaG4
namespace Go.Proofs.Ytdfjkipdmeomdaa

theorem lenI (l : List Int) : lenL szI l = l.length := lenL_z (fun _ => rfl) l

-- Operations at one place
def threeP (n a : Int) (l : List Int) : List DPart := [⟨1, a, []⟩, ⟨2, 0, l⟩, ⟨1, n - a, []⟩]
def threeD (n a m : Int) : List DPart := [⟨1, a, []⟩, ⟨3, m, []⟩, ⟨1, n - a - m, []⟩]
def putAt (n a : Int) (l : List Int) : List DPart × Bool := if (0 ≤ a ∧ a ≤ n) ∧ okOp (threeP n a l) = true then (nrm (threeP n a l), true) else ([], false)
def dropAt (n a m : Int) : List DPart × Bool := if ((0 ≤ a ∧ a ≤ n) ∧ 0 ≤ m ∧ m ≤ n - a) ∧ okOp (threeD n a m) = true then (nrm (threeD n a m), true) else ([], false)
theorem i_normalOr (o : List DPart) : x_impl_normalOr o = some (if okOp o then (nrm o, true) else ([], false)) := by
  unfold x_impl_normalOr
  simp only [i_OpOk, i_OpNorm, Option.bind_some]
  cases okOp o <;> rfl
theorem i_PutAt (n a : Int) (l : List Int) (hn : n ≤ 9223372036854775807) : x_impl_PutAt n a l = some (putAt n a l) := by
  unfold x_impl_PutAt putAt
  rw [i_within, Option.bind_some]
  by_cases h : 0 ≤ a ∧ a ≤ n
  · rw [decide_eq_true h, Bool.not_true, cd_F, xg_I (by omega) (by omega), i_normalOr]
    simp only [h, and_self, true_and, Option.bind_some, threeP]
  · rw [decide_eq_false h, if_neg (fun k => h k.1)]; rfl
theorem i_DropAt (n a m : Int) (hn : n ≤ 9223372036854775807) : x_impl_DropAt n a m = some (dropAt n a m) := by
  unfold x_impl_DropAt dropAt
  rw [i_within, Option.bind_some]
  by_cases h : 0 ≤ a ∧ a ≤ n
  · rw [decide_eq_true h, Bool.not_true, cd_F, xg_I (by omega) (by omega), i_within, Option.bind_some, Option.bind_some]
    by_cases h2 : 0 ≤ m ∧ m ≤ n - a
    · rw [decide_eq_true h2, Bool.not_true, cd_F, xg_I (by omega) (by omega), xg_I (by omega) (by omega), i_normalOr]
      simp only [h, h2, and_self, true_and, Option.bind_some, threeD]
    · rw [decide_eq_false h2, if_neg (fun k => h2 k.1.2)]; rfl
  · rw [decide_eq_false h, if_neg (fun k => h k.1.1)]; rfl
theorem three_fold (n a m : Int) (l : List Int) (h0 : 0 ≤ a) (h1 : a ≤ n) (h2 : 0 ≤ m) (h3 : m ≤ n - a) (hn : n ≤ 200) (hl : l.length ≤ 200) :
    x_spec_l06Op n a l m = some (if okOp [⟨1, a, []⟩, ⟨2, 0, l⟩, ⟨3, m, []⟩, ⟨1, n - a - m, []⟩] then (nrm [⟨1, a, []⟩, ⟨2, 0, l⟩, ⟨3, m, []⟩, ⟨1, n - a - m, []⟩], true) else ([], false)) := by
  have ks : kinds [⟨1, a, []⟩, ⟨2, 0, l⟩, ⟨3, m, []⟩, ⟨1, n - a - m, []⟩] := fun q hq => by
    simp only [List.mem_cons, List.not_mem_nil, or_false] at hq
    rcases hq with rfl | rfl | rfl | rfl
    · exact ⟨.inl rfl, h0, by simp⟩
    · exact ⟨.inr (.inl rfl), by simp, by simp⟩
    · exact ⟨.inr (.inr rfl), h2, by simp⟩
    · exact ⟨.inl rfl, by simp only; omega, by simp⟩
  have hnd : nrm [⟨1, a, []⟩, ⟨2, 0, l⟩, ⟨3, m, []⟩, ⟨1, n - a - m, []⟩] = flushL (bKeep (bDrop (bPut (bKeep bNil a) l) m) (n - a - m)) := rfl
  have b1 : Binv (bKeep bNil a) 1 := binv_keep binv_nil (by omega)
  have b2 : Binv (bPut (bKeep bNil a) l) 2 := binv_put b1 (by omega)
  have b3 : Binv (bDrop (bPut (bKeep bNil a) l) m) 3 := binv_drop b2 h2 (by omega)
  have b4 : Binv (bKeep (bDrop (bPut (bKeep bNil a) l) m) (n - a - m)) 4 := binv_keep b3 (by omega)
  have hf : fromOf [⟨1, a, []⟩, ⟨2, 0, l⟩, ⟨3, m, []⟩, ⟨1, n - a - m, []⟩] = n := by simp [fromOf, sumI, pFrom, pKeep, pDrop]; omega
  have hk : okOp (nrm [⟨1, a, []⟩, ⟨2, 0, l⟩, ⟨3, m, []⟩, ⟨1, n - a - m, []⟩]) = okOp [⟨1, a, []⟩, ⟨2, 0, l⟩, ⟨3, m, []⟩, ⟨1, n - a - m, []⟩] ∨ l.all okSign = false := by
    cases hs : l.all okSign with
    | false => exact .inr rfl
    | true =>
      left
      have e1 : okParts [⟨1, a, []⟩, ⟨2, 0, l⟩, ⟨3, m, []⟩, ⟨1, n - a - m, []⟩] = true := by
        unfold okParts
        simp only [List.all_cons, List.all_nil, okPart, hs]
        simp; omega
      cases ho : okOp [⟨1, a, []⟩, ⟨2, 0, l⟩, ⟨3, m, []⟩, ⟨1, n - a - m, []⟩] with
      | true => exact okOp_nrm ho
      | false =>
        have h4 : ¬ toOf [⟨1, a, []⟩, ⟨2, 0, l⟩, ⟨3, m, []⟩, ⟨1, n - a - m, []⟩] ≤ 200 := fun hc => by
          unfold okOp at ho
          rw [e1, hf] at ho
          simp [hn, hc] at ho
        cases hq : okOp (nrm [⟨1, a, []⟩, ⟨2, 0, l⟩, ⟨3, m, []⟩, ⟨1, n - a - m, []⟩]) with
        | false => rfl
        | true => have := okOp_to hq; rw [to_nrm ks] at this; exact absurd this.2 h4
  unfold x_spec_l06Op
  rw [s_In, Option.bind_some, decide_eq_true (p := 0 ≤ n ∧ n ≤ 200) ⟨by omega, hn⟩, Bool.not_true, cd_F, s_In, Option.bind_some, Option.bind_some, decide_eq_true (p := 0 ≤ a ∧ a ≤ n) ⟨h0, h1⟩, Bool.not_true, cd_F, xg_I (by omega) (by omega), s_In, Option.bind_some, Option.bind_some, decide_eq_true (p := 0 ≤ m ∧ m ≤ n - a) ⟨h2, h3⟩, Bool.not_true, cd_F, s_SignsOk, Option.bind_some, Option.bind_some]
  cases hs : l.all okSign with
  | false =>
    have : okOp [⟨1, a, []⟩, ⟨2, 0, l⟩, ⟨3, m, []⟩, ⟨1, n - a - m, []⟩] = false := by
      cases h : okOp [⟨1, a, []⟩, ⟨2, 0, l⟩, ⟨3, m, []⟩, ⟨1, n - a - m, []⟩] with
      | false => rfl
      | true => have := okParts_signs (okOp_parts h) ⟨2, 0, l⟩ (by simp) rfl; simp only at this; rw [hs] at this; cases this
    rw [this]; rfl
  | true =>
    rw [Bool.not_true, cd_F, Option.bind_some, decide_eq_false (p := (200 : Int) < (l.length : Int)) (by omega), cd_F]
    have e0 : (⟨[], [], 0⟩ : DL02B) = bNil := rfl
    rw [e0, s_Keep binv_nil (by decide) h0 (by omega), Option.bind_some, s_Put b1 (by decide) (by omega), Option.bind_some, s_Drop b2 (by decide) h2 (by omega), Option.bind_some, xg_I (by omega) (by omega), xg_I (by omega) (by omega), s_Keep b3 (by decide) (by omega) (by omega), Option.bind_some, s_Done b4 (by decide), Option.bind_some]
    simp only
    rw [s_OpOk, Option.bind_some, ← hnd]
    rcases hk with hk | hk
    · rw [hk]
      cases okOp [⟨1, a, []⟩, ⟨2, 0, l⟩, ⟨3, m, []⟩, ⟨1, n - a - m, []⟩] <;> rfl
    · rw [hs] at hk; cases hk
theorem okPart_nil (k n : Int) (h0 : 0 ≤ n) (h1 : n ≤ 200) (hk : k = 1 ∨ k = 3) : okPart ⟨k, n, []⟩ = true := by
  unfold okPart
  rw [if_pos hk]; simp; omega
/-- A part without effect may be left out. -/
theorem three_zero (n a : Int) (l : List Int) (_h1 : 0 ≤ a) (_h2 : a ≤ n) : (okOp [⟨1, a, []⟩, ⟨2, 0, l⟩, ⟨3, 0, []⟩, ⟨1, n - a - 0, []⟩] = okOp (threeP n a l)) ∧ nrm [⟨1, a, []⟩, ⟨2, 0, l⟩, ⟨3, 0, []⟩, ⟨1, n - a - 0, []⟩] = nrm (threeP n a l) := by
  constructor
  · unfold okOp okParts threeP fromOf toOf
    simp [sumI, pFrom, pTo, pKeep, pDrop, pPut, okPart_nil 3 0]
  · unfold threeP
    simp only [nrm, List.foldl_cons, List.foldl_nil]
    have : bPart (bPart (bPart bNil ⟨1, a, []⟩) ⟨2, 0, l⟩) ⟨3, 0, []⟩ = bPart (bPart bNil ⟨1, a, []⟩) ⟨2, 0, l⟩ := by
      simp [bPart, bDrop]
    rw [this]; simp
theorem three_none (n a m : Int) (_h1 : 0 ≤ a) (_h2 : a ≤ n) : (okOp [⟨1, a, []⟩, ⟨2, 0, []⟩, ⟨3, m, []⟩, ⟨1, n - a - m, []⟩] = okOp (threeD n a m)) ∧ nrm [⟨1, a, []⟩, ⟨2, 0, []⟩, ⟨3, m, []⟩, ⟨1, n - a - m, []⟩] = nrm (threeD n a m) := by
  constructor
  · unfold okOp okParts threeD fromOf toOf
    have : okPart ⟨2, 0, []⟩ = true := rfl
    simp [sumI, pFrom, pTo, pKeep, pDrop, pPut, this]
  · unfold threeD
    simp only [nrm, List.foldl_cons, List.foldl_nil]
    have : bPart (bPart bNil ⟨1, a, []⟩) ⟨2, 0, []⟩ = bPart bNil ⟨1, a, []⟩ := by
      simp [bPart, bPut]
    rw [this]
theorem l06_bad {n a m : Int} {l : List Int} (h : ¬ ((0 ≤ n ∧ n ≤ 200) ∧ (0 ≤ a ∧ a ≤ n) ∧ (0 ≤ m ∧ m ≤ n - a) ∧ l.length ≤ 200)) (hl : l.length ≤ 9223372036854775807) : x_spec_l06Op n a l m = some ([], false) := by
  unfold x_spec_l06Op
  rw [s_In, Option.bind_some]
  by_cases h1 : 0 ≤ n ∧ n ≤ 200
  · rw [decide_eq_true h1, Bool.not_true, cd_F, s_In, Option.bind_some, Option.bind_some]
    by_cases h2 : 0 ≤ a ∧ a ≤ n
    · rw [decide_eq_true h2, Bool.not_true, cd_F, xg_I (by omega) (by omega), s_In, Option.bind_some, Option.bind_some]
      by_cases h3 : 0 ≤ m ∧ m ≤ n - a
      · rw [decide_eq_true h3, Bool.not_true, cd_F, s_SignsOk, Option.bind_some, Option.bind_some]
        cases l.all okSign with
        | false => rfl
        | true => rw [Bool.not_true, cd_F, Option.bind_some, decide_eq_true (p := (200 : Int) < (l.length : Int)) (by omega)]; rfl
      · rw [decide_eq_false h3]; rfl
    · rw [decide_eq_false h2]; rfl
  · rw [decide_eq_false h1]; rfl
theorem s_PutAt (n a : Int) (l : List Int) (hl : l.length ≤ 9223372036854775807) : x_spec_PutAt n a l = some (putAt n a l) := by
  unfold x_spec_PutAt putAt
  by_cases h : (0 ≤ n ∧ n ≤ 200) ∧ (0 ≤ a ∧ a ≤ n) ∧ (0 ≤ (0 : Int) ∧ 0 ≤ n - a) ∧ l.length ≤ 200
  · have h3 := three_zero n a l h.2.1.1 h.2.1.2
    rw [three_fold n a 0 l h.2.1.1 h.2.1.2 (by omega) h.2.2.1.2 h.1.2 h.2.2.2, h3.1, h3.2, Option.bind_some]
    cases ho : okOp (threeP n a l) with
    | false => simp
    | true => simp [h.2.1]
  · rw [l06_bad h hl, Option.bind_some, if_neg]
    intro ⟨k1, k2⟩
    have e1 := okOp_from k2
    have e2 : fromOf (threeP n a l) = n := by simp [threeP, fromOf, sumI, pFrom, pKeep, pDrop]; omega
    have e3 := (okPart_len (okParts_mem (okOp_parts k2) (p := ⟨2, 0, l⟩) (by simp [threeP]))).1
    rw [e2] at e1
    simp only at e3
    exact h ⟨by omega, k1, by omega, e3⟩
end Go.Proofs.Ytdfjkipdmeomdaa
