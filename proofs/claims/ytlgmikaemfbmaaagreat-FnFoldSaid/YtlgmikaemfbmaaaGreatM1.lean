/- Composed and led past: the loops of the reference, walked. No condition. -/
import Derived.Test.YtlgmikaemfbmaaaGreatMv
namespace Go.Proofs.YtlgmikaemfbmaaaGreat

theorem s_KindS {c : DL04Cur} (h : CI c) (hs : skp (remL c) = remL c) : x_spec_l04Kind c = some ((hdP (remL c)).kind, c) := by
  obtain ⟨r, h1, h2⟩ := iter_ex (f := x_spec_l04Kind_f0 c) (fun s => s = (c.at_, c.done)) (fun _ => 0) (fun r => r = (c.at_, c.done)) (fun s hP => by
    subst hP
    refine .inr ⟨_, ?_, rfl⟩
    have a0 := h.a0; have a1 := h.a1; have d0 := h.d0
    unfold x_spec_l04Kind_f0 x_spec_l04Kind_b0
    dsimp only
    by_cases hk : c.at_ < c.o.length
    · have ok := h.el hk
      have d2 := h.d2 hk
      have sz := (cut_ok ok d0 d2).2.2.2.2.2
      have e : remL c = pRst (el c.o c.at_.toNat) c.done :: c.o.drop (c.at_.toNat + 1) := by unfold remL; rw [if_pos hk]
      rw [e] at hs
      have := skp_cons hs
      rw [cd_t hk, xg_of ⟨a0, hk⟩, s_Size ok, Option.bind_some, Option.bind_some, cd_f (by omega)]
    · rw [cd_f hk]; rfl) (c.at_, c.done) rfl
  subst h2
  have a0 := h.a0; have a1 := h.a1
  unfold x_spec_l04Kind
  rw [h1, Option.bind_some]
  unfold remL
  by_cases hk : c.at_ = c.o.length
  · rw [cd_t hk, if_neg (by omega)]; rfl
  · have hlt : c.at_ < c.o.length := by omega
    rw [cd_f hk, xg_of ⟨a0, hlt⟩, if_pos hlt]
    simp only [hdP, (cut_ok (h.el hlt) h.d0 (h.d2 hlt)).2.2.2.2.1]
def bTr (b : DL02B) : List DPart × List Int × Int := (b.list, b.put, b.drop)
def bTr2 (b d : DL02B) : List DPart × List Int × Int × List DPart × List Int × Int := (b.list, b.put, b.drop, d.list, d.put, d.drop)
/-- The cursor, settled. -/
theorem s_set {o : List DPart} {k e : Int} (h : CI ⟨o, k, e⟩) {A : List DPart} (hA : skp (remL ⟨o, k, e⟩) = A) : ∃ o' k' e', CI ⟨o', k', e'⟩ ∧ remL ⟨o', k', e'⟩ = A ∧ x_spec_l04Kind ⟨o, k, e⟩ = some ((hdP A).kind, ⟨o', k', e'⟩) ∧ x_spec_l04Kind ⟨o', k', e'⟩ = some ((hdP A).kind, ⟨o', k', e'⟩) := by
  subst hA
  obtain ⟨⟨o', k', e'⟩, q1, q2, q3, q4⟩ := s_Kind h
  exact ⟨o', k', e', q2, q4, q1, by rw [← q4]; exact s_KindS q2 (by rw [q4]; exact skp_skp _)⟩
theorem adv_bd {o : List DPart} {k e n : Int} (h : CI (adv ⟨o, k, e⟩ n)) : 0 ≤ e + n ∧ e + n ≤ 200 := ⟨h.d0, h.d1⟩
theorem cut_len {p : DPart} {n : Int} (ok : okPart p = true) (h0 : 0 ≤ n) (h1 : n ≤ pSz p) : (pCut p n).signs.length ≤ 1000000 := by have := okPart_len (cut_ok ok h0 h1).1; omega
theorem nbd {p : DPart} {n : Int} (ok : okPart p = true) (h1 : n ≤ pSz p) : n ≤ 1000000 := by have := pSz_bd ok; omega

theorem okf {l : List DPart} (h : ∀ p ∈ l, okPart p = true) : ∀ p ∈ l, fair p := fun p hp => okPart_fair (h p hp)
end Go.Proofs.YtlgmikaemfbmaaaGreat
