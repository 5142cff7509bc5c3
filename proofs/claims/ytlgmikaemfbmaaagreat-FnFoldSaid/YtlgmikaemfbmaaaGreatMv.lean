/- Composed and led past: the loops of the reference. No condition. -/
import Derived.Test.YtlgmikaemfbmaaaGreatMu
namespace Go.Proofs.YtlgmikaemfbmaaaGreat

def remL (c : DL04Cur) : List DPart := if c.at_ < c.o.length then pRst (el c.o c.at_.toNat) c.done :: c.o.drop (c.at_.toNat + 1) else []
structure CI (c : DL04Cur) : Prop where
  ok : oks c.o
  len : c.o.length ≤ 600
  a0 : 0 ≤ c.at_
  a1 : c.at_ ≤ c.o.length
  d0 : 0 ≤ c.done
  d1 : c.done ≤ 200
  d2 : c.at_ < c.o.length → c.done ≤ pSz (el c.o c.at_.toNat)
theorem pRst_0 (p : DPart) : pRst p 0 = p := by
  obtain ⟨k, n, s⟩ := p
  unfold pRst
  simp
theorem remL_0 (o : List DPart) (k : Int) (h : 0 ≤ k) : remL ⟨o, k, 0⟩ = o.drop k.toNat := by
  unfold remL
  dsimp only
  by_cases hk : k < o.length
  · rw [if_pos hk, pRst_0, ← drop_el (by omega)]
  · rw [if_neg hk, List.drop_eq_nil_of_le (by omega)]
theorem CI.el {c : DL04Cur} (h : CI c) (hk : c.at_ < c.o.length) : okPart (el c.o c.at_.toNat) = true := h.ok _ (el_mem (by have := h.a0; omega))
theorem s_Size {p : DPart} (h : okPart p = true) : x_spec_l04Size p = some (pSz p) := by
  unfold x_spec_l04Size pSz
  rcases okPart_cases h with ⟨g1, g2, g3, g4⟩ | ⟨g1, g2, g3, g4⟩ | ⟨g1, g2, g3, g4⟩
  · rw [cd_f (by omega), g4]; simp
  · rw [cd_t g1, g2]; simp
  · rw [cd_f (by omega), g4]; simp
theorem CI.oks {c : DL04Cur} (h : CI c) : Go.Proofs.YtlgmikaemfbmaaaGreat.oks (remL c) := by
  unfold remL
  split
  · rename_i hk
    exact oks_cons (cut_ok (h.el hk) h.d0 (h.d2 hk)).2.2.2.1 (fun p hp => h.ok p (List.mem_of_mem_drop hp))
  · exact oks_nil
theorem CI.rlen {c : DL04Cur} (h : CI c) : (remL c).length ≤ 600 := by
  have := h.len; have := h.a0
  unfold remL
  split
  · simp only [List.length_cons, List.length_drop]; omega
  · simp
theorem s_Kind {c : DL04Cur} (h : CI c) : ∃ c', x_spec_l04Kind c = some ((hdP (skp (remL c))).kind, c') ∧ CI c' ∧ c'.o = c.o ∧ remL c' = skp (remL c) := by
  obtain ⟨r, h1, h2, h3⟩ := iter_ex (f := x_spec_l04Kind_f0 c) (fun s => CI ⟨c.o, s.1, s.2⟩ ∧ skp (remL ⟨c.o, s.1, s.2⟩) = skp (remL c)) (fun s => ((c.o.length : Int) - s.1).toNat) (fun r => CI ⟨c.o, r.1, r.2⟩ ∧ remL ⟨c.o, r.1, r.2⟩ = skp (remL c)) (fun s hP => by
    obtain ⟨k, d⟩ := s
    obtain ⟨g, e⟩ := hP
    dsimp only at g e ⊢
    have a0 := g.a0; have a1 := g.a1; have ll := g.len
    dsimp only at a0 a1 ll
    unfold x_spec_l04Kind_f0 x_spec_l04Kind_b0
    dsimp only
    by_cases hk : k < c.o.length
    · have ok := g.el hk
      have d2 := g.d2 hk
      have d0 := g.d0
      dsimp only at ok d2 d0
      have sz := (cut_ok ok d0 d2).2.2.2.2.2
      rw [cd_t hk, xg_of ⟨a0, hk⟩, s_Size ok, Option.bind_some, Option.bind_some]
      by_cases he : d = pSz (el c.o k.toNat)
      · refine .inl ⟨(k + 1, 0), ?_, ⟨⟨g.ok, ll, by dsimp only; omega, by dsimp only; omega, by dsimp only; omega, by dsimp only; omega, fun hk' => ?_⟩, ?_⟩, ?_⟩
        · rw [cd_t he, xg_I (by omega) (by omega)]
        · dsimp only at hk' ⊢; exact (pSz_bd (g.ok _ (el_mem (l := c.o) (by omega)))).1
        · rw [← e, remL_0 _ _ (by omega)]
          unfold remL
          dsimp only
          rw [if_pos hk, skp_z (by omega), show (k + 1).toNat = k.toNat + 1 by omega]
        · dsimp only; omega
      · refine .inr ⟨(k, d), by rw [cd_f he], g, ?_⟩
        rw [← e]
        unfold remL
        dsimp only
        rw [if_pos hk, skp_n (by omega)]
    · refine .inr ⟨(k, d), by rw [cd_f hk]; rfl, g, ?_⟩
      rw [← e]
      unfold remL
      dsimp only
      rw [if_neg hk]; rfl) (c.at_, c.done) ⟨h, rfl⟩
  obtain ⟨k, d⟩ := r
  dsimp only at h2 h3
  refine ⟨⟨c.o, k, d⟩, ?_, h2, rfl, h3⟩
  have a0 := h2.a0; have a1 := h2.a1
  dsimp only at a0 a1
  unfold x_spec_l04Kind
  rw [h1, Option.bind_some, ← h3]
  by_cases hk : k = c.o.length
  · rw [cd_t hk]
    unfold remL
    dsimp only
    rw [if_neg (by omega)]; rfl
  · have hlt : k < c.o.length := by omega
    have ok := h2.el hlt
    have d2 := h2.d2 hlt
    have d0 := h2.d0
    dsimp only at ok d2 d0
    rw [cd_f hk, xg_of ⟨a0, hlt⟩]
    unfold remL
    dsimp only
    rw [if_pos hlt]
    simp only [hdP, (cut_ok ok d0 d2).2.2.2.2.1]
theorem remL_get {c : DL04Cur} {p : DPart} {r : List DPart} (h : remL c = p :: r) : c.at_ < c.o.length ∧ p = pRst (el c.o c.at_.toNat) c.done ∧ r = c.o.drop (c.at_.toNat + 1) := by
  unfold remL at h
  split at h
  · rename_i hk
    simp only [List.cons.injEq] at h
    exact ⟨hk, h.1.symm, h.2.symm⟩
  · cases h
theorem s_Left {c : DL04Cur} {p : DPart} {r : List DPart} (h : CI c) (hr : remL c = p :: r) : x_spec_l04Left c = some (pSz p, c) := by
  obtain ⟨hk, rfl, _⟩ := remL_get hr
  have ok := h.el hk
  have b := pSz_bd ok
  have := h.d0; have := h.d1
  unfold x_spec_l04Left
  rw [xg_of ⟨h.a0, hk⟩, s_Size ok, Option.bind_some, xg_I (by omega) (by omega), (cut_ok ok h.d0 (h.d2 hk)).2.2.2.2.2]
/-- So much further in the part. -/
def adv (c : DL04Cur) (n : Int) : DL04Cur := ⟨c.o, c.at_, c.done + n⟩
theorem pRst_two {p : DPart} {d n : Int} (h0 : 0 ≤ d) (h1 : 0 ≤ n) : pRst p (d + n) = pRst (pRst p d) n := by
  unfold pRst
  by_cases hk : p.kind = 2
  · simp only [if_pos hk, List.take_length, List.drop_drop]
    rw [show (d + n).toNat = d.toNat + n.toNat by omega]
  · simp only [if_neg hk]
    rw [show p.n - (d + n) = p.n - d - n by omega]
theorem adv_ok {c : DL04Cur} {p : DPart} {r : List DPart} {n : Int} (h : CI c) (hr : remL c = p :: r) (h0 : 0 ≤ n) (h1 : n ≤ pSz p) : CI (adv c n) ∧ remL (adv c n) = pRst p n :: r := by
  obtain ⟨hk, rfl, rfl⟩ := remL_get hr
  have ok := h.el hk
  have b := pSz_bd ok
  have := h.d0; have := h.d1
  rw [(cut_ok ok h.d0 (h.d2 hk)).2.2.2.2.2] at h1
  refine ⟨⟨h.ok, h.len, h.a0, h.a1, by unfold adv; dsimp only; omega, by unfold adv; dsimp only; omega, fun _ => by unfold adv; dsimp only; omega⟩, ?_⟩
  unfold remL adv
  dsimp only
  rw [if_pos hk, pRst_two h.d0 h0]
theorem s_Take {c : DL04Cur} {p : DPart} {r : List DPart} {n : Int} (h : CI c) (hr : remL c = p :: r) (h0 : 0 ≤ n) (h1 : n ≤ pSz p) (hk2 : p.kind = 2) : x_spec_l04Take c n = some ((pCut p n).signs, adv c n) := by
  obtain ⟨hk, rfl, rfl⟩ := remL_get hr
  have ok := h.el hk
  have b := pSz_bd ok
  have := h.d0; have := h.d1
  have g := cut_ok ok h.d0 (h.d2 hk)
  rw [g.2.2.2.2.2] at h1
  rw [g.2.2.2.2.1] at hk2
  have hs : pSz (el c.o c.at_.toNat) = (el c.o c.at_.toNat).signs.length := by
    unfold pSz
    rcases okPart_cases ok with ⟨g1, _⟩ | ⟨_, g2, _⟩ | ⟨g1, _⟩ <;> omega
  unfold x_spec_l04Take
  rw [xg_of ⟨h.a0, hk⟩, xg_I (by omega) (by omega), xg_of ⟨by omega, by omega, by omega⟩, xg_I (by omega) (by omega)]
  unfold adv pCut pRst
  simp only [if_pos hk2, List.take_length, List.drop_zero]
  rw [← take_toNat h.d0 h0]
theorem s_Min (x y : Int) : x_spec_l04Min x y = some (min x y) := by
  unfold x_spec_l04Min
  by_cases h : x < y
  · rw [cd_t h]; congr 1; omega
  · rw [cd_f h]; congr 1; omega
theorem bP_put {b : DL02B} {p : DPart} (h : p.kind = 2) : bPart b p = bPut b p.signs := if_pos h
theorem bP_drop {b : DL02B} {p : DPart} (h : p.kind = 3) : bPart b p = bDrop b p.n := by unfold bPart; rw [if_neg (by omega), if_pos h]
theorem bP_keep {b : DL02B} {p : DPart} (h : p.kind = 1) : bPart b p = bKeep b p.n := by unfold bPart; rw [if_neg (by omega), if_neg (by omega)]
theorem cut_n {p : DPart} {n : Int} (h : p.kind ≠ 2) : (pCut p n).n = n := by unfold pCut; rw [if_neg h]
end Go.Proofs.YtlgmikaemfbmaaaGreat
