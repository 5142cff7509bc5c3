/- Composed and led past: the loops of the reference. No condition. -/
import Derived.Test.YtlgmikaemfbmaaaGreatMu
namespace Go.Proofs.YtlgmikaemfbmaaaGreat

def remL (c : DL04Cur) : List DPart := if c.at_ < c.o.length then pRst (el c.o c.at_.toNat) c.done :: c.o.drop (c.at_.toNat + 1) else []
structure CI (c : DL04Cur) : Prop where
  ok : oks c.o
  len : c.o.length ≤ 600
  a0 : 0 ≤ c.at_
  a1 : c.at_ ≤ c.o.length
  d0 : 0 ≤ c.done
  d1 : c.done ≤ 200
  d2 : c.at_ < c.o.length → c.done ≤ pSz (el c.o c.at_.toNat)
theorem pRst_0 (p : DPart) : pRst p 0 = p := by
  obtain ⟨k, n, s⟩ := p
  unfold pRst
  simp
theorem remL_0 (o : List DPart) (k : Int) (h : 0 ≤ k) : remL ⟨o, k, 0⟩ = o.drop k.toNat := by
  unfold remL
  dsimp only
  by_cases hk : k < o.length
  · rw [if_pos hk, pRst_0, ← drop_el (by omega)]
  · rw [if_neg hk, List.drop_eq_nil_of_le (by omega)]
theorem CI.el {c : DL04Cur} (h : CI c) (hk : c.at_ < c.o.length) : okPart (el c.o c.at_.toNat) = true := h.ok _ (el_mem (by have := h.a0; omega))
theorem s_Size {p : DPart} (h : okPart p = true) : x_spec_l04Size p = some (pSz p) := by
  unfold x_spec_l04Size pSz
  rcases okPart_cases h with ⟨g1, g2, g3, g4⟩ | ⟨g1, g2, g3, g4⟩ | ⟨g1, g2, g3, g4⟩
  · rw [cd_f (by omega), g4]; simp
  · rw [cd_t g1, g2]; simp
  · rw [cd_f (by omega), g4]; simp
theorem CI.oks {c : DL04Cur} (h : CI c) : Go.Proofs.YtlgmikaemfbmaaaGreat.oks (remL c) := by
  unfold remL
  split
  · rename_i hk
    exact oks_cons (cut_ok (h.el hk) h.d0 (h.d2 hk)).2.2.2.1 (fun p hp => h.ok p (List.mem_of_mem_drop hp))
  · exact oks_nil
theorem s_Kind {c : DL04Cur} (h : CI c) : ∃ c', x_spec_l04Kind c = some ((hdP (skp (remL c))).kind, c') ∧ CI c' ∧ c'.o = c.o ∧ remL c' = skp (remL c) := by
  obtain ⟨r, h1, h2, h3⟩ := iter_ex (f := x_spec_l04Kind_f0 c) (fun s => CI ⟨c.o, s.1, s.2⟩ ∧ skp (remL ⟨c.o, s.1, s.2⟩) = skp (remL c)) (fun s => ((c.o.length : Int) - s.1).toNat) (fun r => CI ⟨c.o, r.1, r.2⟩ ∧ remL ⟨c.o, r.1, r.2⟩ = skp (remL c)) (fun s hP => by
    obtain ⟨k, d⟩ := s
    obtain ⟨g, e⟩ := hP
    dsimp only at g e ⊢
    have a0 := g.a0; have a1 := g.a1; have ll := g.len
    dsimp only at a0 a1 ll
    unfold x_spec_l04Kind_f0 x_spec_l04Kind_b0
    dsimp only
    by_cases hk : k < c.o.length
    · have ok := g.el hk
      have d2 := g.d2 hk
      have d0 := g.d0
      dsimp only at ok d2 d0
      have sz := (cut_ok ok d0 d2).2.2.2.2.2
      rw [cd_t hk, xg_of ⟨a0, hk⟩, s_Size ok, Option.bind_some, Option.bind_some]
      by_cases he : d = pSz (el c.o k.toNat)
      · refine .inl ⟨(k + 1, 0), ?_, ⟨⟨g.ok, ll, by dsimp only; omega, by dsimp only; omega, by dsimp only; omega, by dsimp only; omega, fun hk' => ?_⟩, ?_⟩, ?_⟩
        · rw [cd_t he, xg_I (by omega) (by omega)]
        · dsimp only at hk' ⊢; exact (pSz_bd (g.ok _ (el_mem (l := c.o) (by omega)))).1
        · rw [← e, remL_0 _ _ (by omega)]
          unfold remL
          dsimp only
          rw [if_pos hk, skp_z (by omega), show (k + 1).toNat = k.toNat + 1 by omega]
        · dsimp only; omega
      · refine .inr ⟨(k, d), by rw [cd_f he], g, ?_⟩
        rw [← e]
        unfold remL
        dsimp only
        rw [if_pos hk, skp_n (by omega)]
    · refine .inr ⟨(k, d), by rw [cd_f hk]; rfl, g, ?_⟩
      rw [← e]
      unfold remL
      dsimp only
      rw [if_neg hk]; rfl) (c.at_, c.done) ⟨h, rfl⟩
  obtain ⟨k, d⟩ := r
  dsimp only at h2 h3
  refine ⟨⟨c.o, k, d⟩, ?_, h2, rfl, h3⟩
  have a0 := h2.a0; have a1 := h2.a1
  dsimp only at a0 a1
  unfold x_spec_l04Kind
  rw [h1, Option.bind_some, ← h3]
  by_cases hk : k = c.o.length
  · rw [cd_t hk]
    unfold remL
    dsimp only
    rw [if_neg (by omega)]; rfl
  · have hlt : k < c.o.length := by omega
    have ok := h2.el hlt
    have d2 := h2.d2 hlt
    have d0 := h2.d0
    dsimp only at ok d2 d0
    rw [cd_f hk, xg_of ⟨a0, hlt⟩]
    unfold remL
    dsimp only
    rw [if_pos hlt]
    simp only [hdP, (cut_ok ok d0 d2).2.2.2.2.1]
theorem remL_get {c : DL04Cur} {p : DPart} {r : List DPart} (h : remL c = p :: r) : c.at_ < c.o.length ∧ p = pRst (el c.o c.at_.toNat) c.done ∧ r = c.o.drop (c.at_.toNat + 1) := by
  unfold remL at h
  split at h
  · rename_i hk
    simp only [List.cons.injEq] at h
    exact ⟨hk, h.1.symm, h.2.symm⟩
  · cases h
theorem s_Left {c : DL04Cur} {p : DPart} {r : List DPart} (h : CI c) (hr : remL c = p :: r) : x_spec_l04Left c = some (pSz p, c) := by
  obtain ⟨hk, rfl, _⟩ := remL_get hr
  have ok := h.el hk
  have b := pSz_bd ok
  have := h.d0; have := h.d1
  unfold x_spec_l04Left
  rw [xg_of ⟨h.a0, hk⟩, s_Size ok, Option.bind_some, xg_I (by omega) (by omega), (cut_ok ok h.d0 (h.d2 hk)).2.2.2.2.2]
/-- So much further in the part. -/
def adv (c : DL04Cur) (n : Int) : DL04Cur := ⟨c.o, c.at_, c.done + n⟩
theorem pRst_two {p : DPart} {d n : Int} (h0 : 0 ≤ d) (h1 : 0 ≤ n) : pRst p (d + n) = pRst (pRst p d) n := by
  unfold pRst
  by_cases hk : p.kind = 2
  · simp only [if_pos hk, List.take_length, List.drop_drop]
    rw [show (d + n).toNat = d.toNat + n.toNat by omega]
  · simp only [if_neg hk]
    rw [show p.n - (d + n) = p.n - d - n by omega]
theorem adv_ok {c : DL04Cur} {p : DPart} {r : List DPart} {n : Int} (h : CI c) (hr : remL c = p :: r) (h0 : 0 ≤ n) (h1 : n ≤ pSz p) : CI (adv c n) ∧ remL (adv c n) = pRst p n :: r := by
  obtain ⟨hk, rfl, rfl⟩ := remL_get hr
  have ok := h.el hk
  have b := pSz_bd ok
  have := h.d0; have := h.d1
  rw [(cut_ok ok h.d0 (h.d2 hk)).2.2.2.2.2] at h1
  refine ⟨⟨h.ok, h.len, h.a0, h.a1, by unfold adv; dsimp only; omega, by unfold adv; dsimp only; omega, fun _ => by unfold adv; dsimp only; omega⟩, ?_⟩
  unfold remL adv
  dsimp only
  rw [if_pos hk, pRst_two h.d0 h0]
theorem s_Take {c : DL04Cur} {p : DPart} {r : List DPart} {n : Int} (h : CI c) (hr : remL c = p :: r) (h0 : 0 ≤ n) (h1 : n ≤ pSz p) (hk2 : p.kind = 2) : x_spec_l04Take c n = some ((pCut p n).signs, adv c n) := by
  obtain ⟨hk, rfl, rfl⟩ := remL_get hr
  have ok := h.el hk
  have b := pSz_bd ok
  have := h.d0; have := h.d1
  have g := cut_ok ok h.d0 (h.d2 hk)
  rw [g.2.2.2.2.2] at h1
  rw [g.2.2.2.2.1] at hk2
  have hs : pSz (el c.o c.at_.toNat) = (el c.o c.at_.toNat).signs.length := by
    unfold pSz
    rcases okPart_cases ok with ⟨g1, _⟩ | ⟨_, g2, _⟩ | ⟨g1, _⟩ <;> omega
  unfold x_spec_l04Take
  rw [xg_of ⟨h.a0, hk⟩, xg_I (by omega) (by omega), xg_of ⟨by omega, by omega, by omega⟩, xg_I (by omega) (by omega)]
  unfold adv pCut pRst
  simp only [if_pos hk2, List.take_length, List.drop_zero]
  rw [← take_toNat h.d0 h0]
theorem s_Min (x y : Int) : x_spec_l04Min x y = some (min x y) := by
  unfold x_spec_l04Min
  by_cases h : x < y
  · rw [cd_t h]; congr 1; omega
  · rw [cd_f h]; congr 1; omega
theorem bP_put {b : DL02B} {p : DPart} (h : p.kind = 2) : bPart b p = bPut b p.signs := if_pos h
theorem bP_drop {b : DL02B} {p : DPart} (h : p.kind = 3) : bPart b p = bDrop b p.n := by unfold bPart; rw [if_neg (by omega), if_pos h]
theorem bP_keep {b : DL02B} {p : DPart} (h : p.kind = 1) : bPart b p = bKeep b p.n := by unfold bPart; rw [if_neg (by omega), if_neg (by omega)]
theorem cut_n {p : DPart} {n : Int} (h : p.kind ≠ 2) : (pCut p n).n = n := by unfold pCut; rw [if_neg h]
end Go.Proofs.YtlgmikaemfbmaaaGreat
namespace Go.Proofs.YtlgmikaemfbmaaaGreat

theorem s_KindS {c : DL04Cur} (h : CI c) (hs : skp (remL c) = remL c) : x_spec_l04Kind c = some ((hdP (remL c)).kind, c) := by
  obtain ⟨r, h1, h2⟩ := iter_ex (f := x_spec_l04Kind_f0 c) (fun s => s = (c.at_, c.done)) (fun _ => 0) (fun r => r = (c.at_, c.done)) (fun s hP => by
    subst hP
    refine .inr ⟨_, ?_, rfl⟩
    have a0 := h.a0; have a1 := h.a1; have d0 := h.d0
    unfold x_spec_l04Kind_f0 x_spec_l04Kind_b0
    dsimp only
    by_cases hk : c.at_ < c.o.length
    · have ok := h.el hk
      have d2 := h.d2 hk
      have sz := (cut_ok ok d0 d2).2.2.2.2.2
      have e : remL c = pRst (el c.o c.at_.toNat) c.done :: c.o.drop (c.at_.toNat + 1) := by unfold remL; rw [if_pos hk]
      rw [e] at hs
      have := skp_cons hs
      rw [cd_t hk, xg_of ⟨a0, hk⟩, s_Size ok, Option.bind_some, Option.bind_some, cd_f (by omega)]
    · rw [cd_f hk]; rfl) (c.at_, c.done) rfl
  subst h2
  have a0 := h.a0; have a1 := h.a1
  unfold x_spec_l04Kind
  rw [h1, Option.bind_some]
  unfold remL
  by_cases hk : c.at_ = c.o.length
  · rw [cd_t hk, if_neg (by omega)]; rfl
  · have hlt : c.at_ < c.o.length := by omega
    rw [cd_f hk, xg_of ⟨a0, hlt⟩, if_pos hlt]
    simp only [hdP, (cut_ok (h.el hlt) h.d0 (h.d2 hlt)).2.2.2.2.1]
def bTr2 (b d : DL02B) : List DPart × List Int × Int × List DPart × List Int × Int := (b.list, b.put, b.drop, d.list, d.put, d.drop)
/-- The cursor, settled. -/
theorem s_set {o : List DPart} {k e : Int} (h : CI ⟨o, k, e⟩) {A : List DPart} (hA : skp (remL ⟨o, k, e⟩) = A) : ∃ o' k' e', CI ⟨o', k', e'⟩ ∧ remL ⟨o', k', e'⟩ = A ∧ x_spec_l04Kind ⟨o, k, e⟩ = some ((hdP A).kind, ⟨o', k', e'⟩) ∧ x_spec_l04Kind ⟨o', k', e'⟩ = some ((hdP A).kind, ⟨o', k', e'⟩) := by
  subst hA
  obtain ⟨⟨o', k', e'⟩, q1, q2, q3, q4⟩ := s_Kind h
  exact ⟨o', k', e', q2, q4, q1, by rw [← q4]; exact s_KindS q2 (by rw [q4]; exact skp_skp _)⟩
theorem adv_bd {o : List DPart} {k e n : Int} (h : CI (adv ⟨o, k, e⟩ n)) : 0 ≤ e + n ∧ e + n ≤ 200 := ⟨h.d0, h.d1⟩
theorem cut_len {p : DPart} {n : Int} (ok : okPart p = true) (h0 : 0 ≤ n) (h1 : n ≤ pSz p) : (pCut p n).signs.length ≤ 1000000 := by have := okPart_len (cut_ok ok h0 h1).1; omega
theorem nbd {p : DPart} {n : Int} (ok : okPart p = true) (h1 : n ≤ pSz p) : n ≤ 1000000 := by have := pSz_bd ok; omega

theorem okf {l : List DPart} (h : ∀ p ∈ l, okPart p = true) : ∀ p ∈ l, fair p := fun p hp => okPart_fair (h p hp)
end Go.Proofs.YtlgmikaemfbmaaaGreat
namespace Go.Proofs.YtlgmikaemfbmaaaGreat

section
variable {o1 o2 r t L L' : List DPart} {k1 e1 k2 e2 D D' n : Int} {P P' : List Int} {p q : DPart} {m m' : Nat}
theorem s_tf_E (h1 : CI ⟨o1, k1, e1⟩) (h2 : CI ⟨o2, k2, e2⟩) (hA : skp (remL ⟨o1, k1, e1⟩) = []) (hB : skp (remL ⟨o2, k2, e2⟩) = []) : x_spec_Transform_b0 o1 k1 e1 o2 k2 e2 L P D L' P' D' = some (.out (L, P, D, L', P', D')) := by
  obtain ⟨o', k', e', q1, q2, q3, q4⟩ := s_set h1 hA
  obtain ⟨u', j', i', y1, y2, y3, y4⟩ := s_set h2 hB
  unfold x_spec_Transform_b0
  simp (disch := first | assumption | omega | rfl) only [q3, y3, Option.bind_some, hdP, cd_n, cd_T, cd_F, decide_true, Bool.not_true]
theorem s_tf_L (h1 : CI ⟨o1, k1, e1⟩) (hb : Binv ⟨L, P, D⟩ m) (hm : m < 1000000) (hb' : Binv ⟨L', P', D'⟩ m') (hm' : m' < 1000000) (hA : skp (remL ⟨o1, k1, e1⟩) = p :: r) (hk : p.kind = 2) (ok : okPart p = true) :
    ∃ c : DL04Cur, x_spec_Transform_b0 o1 k1 e1 o2 k2 e2 L P D L' P' D' = some (.go (c.o, c.at_, c.done, o2, k2, e2, bTr2 (bPart ⟨L, P, D⟩ (pCut p (pSz p))) (bPart ⟨L', P', D'⟩ ⟨1, ((pCut p (pSz p)).signs.length : Int), []⟩))) ∧ CI c ∧ remL c = pRst p (pSz p) :: r := by
  obtain ⟨o', k', e', q1, q2, q3, q4⟩ := s_set h1 hA
  have q5 := s_Left q1 q2
  have bp := pSz_bd ok
  have g := adv_ok q1 q2 bp.1 (Int.le_refl _)
  have q6 := s_Take q1 q2 bp.1 (Int.le_refl _) hk
  refine ⟨adv ⟨o', k', e'⟩ (pSz p), ?_, g.1, g.2⟩
  have w := s_Put hb hm (cut_len ok bp.1 (Int.le_refl _))
  have w' := s_Keep (n := pSz p) hb' hm' bp.1 (by omega)
  have k0 := k_ne0 ok
  rw [bP_put (by rw [(cut_ok ok bp.1 (Int.le_refl _)).2.1]; exact hk), bP_keep rfl, cut_sl ok hk bp.1 (Int.le_refl _)]
  clear hA h1 q2 ok
  unfold x_spec_Transform_b0
  simp (disch := first | assumption | omega | rfl) only [q3, q4, q5, q6, w, w', hk, adv, bTr2, Option.bind_some, hdP, cd_n, cd_f, cd_T, cd_F, decide_true]
theorem s_tf_R (h1 : CI ⟨o1, k1, e1⟩) (h2 : CI ⟨o2, k2, e2⟩) (hb : Binv ⟨L, P, D⟩ m) (hm : m < 1000000) (hb' : Binv ⟨L', P', D'⟩ m') (hm' : m' < 1000000) (hB : skp (remL ⟨o2, k2, e2⟩) = q :: t) (hk : q.kind = 2) (ok : okPart q = true)
    (hA : skp (remL ⟨o1, k1, e1⟩) = [] ∨ ∃ p r, skp (remL ⟨o1, k1, e1⟩) = p :: r ∧ p.kind ≠ 2 ∧ p.kind ≠ 0) :
    ∃ c d : DL04Cur, x_spec_Transform_b0 o1 k1 e1 o2 k2 e2 L P D L' P' D' = some (.go (c.o, c.at_, c.done, d.o, d.at_, d.done, bTr2 (bPart ⟨L, P, D⟩ ⟨1, ((pCut q (pSz q)).signs.length : Int), []⟩) (bPart ⟨L', P', D'⟩ (pCut q (pSz q))))) ∧ CI c ∧ CI d ∧ remL c = skp (remL ⟨o1, k1, e1⟩) ∧ remL d = pRst q (pSz q) :: t := by
  obtain ⟨u', j', i', y1, y2, y3, y4⟩ := s_set h2 hB
  have y5 := s_Left y1 y2
  have bq := pSz_bd ok
  have g := adv_ok y1 y2 bq.1 (Int.le_refl _)
  have y6 := s_Take y1 y2 bq.1 (Int.le_refl _) hk
  have w := s_Put hb' hm' (cut_len ok bq.1 (Int.le_refl _))
  have w' := s_Keep (n := pSz q) hb hm bq.1 (by omega)
  have k0 := k_ne0 ok
  rw [bP_put (p := pCut q (pSz q)) (by rw [(cut_ok ok bq.1 (Int.le_refl _)).2.1]; exact hk), bP_keep rfl, cut_sl ok hk bq.1 (Int.le_refl _)]
  clear hB h2 y2 ok
  unfold x_spec_Transform_b0
  rcases hA with hA | ⟨p, r, hA, g1, g2⟩
  · obtain ⟨o', k', e', q1, q2, q3, q4⟩ := s_set h1 hA
    refine ⟨⟨o', k', e'⟩, adv ⟨u', j', i'⟩ (pSz q), ?_, q1, g.1, by rw [hA]; exact q2, g.2⟩
    clear hA h1 q2
    simp (disch := first | assumption | omega | rfl) only [q3, q4, y3, y4, y5, y6, w, w', hk, adv, bTr2, Option.bind_some, hdP, cd_n, cd_f, cd_T, decide_true]
  · obtain ⟨o', k', e', q1, q2, q3, q4⟩ := s_set h1 hA
    refine ⟨⟨o', k', e'⟩, adv ⟨u', j', i'⟩ (pSz q), ?_, q1, g.1, by rw [hA]; exact q2, g.2⟩
    clear hA h1 q2
    simp (disch := first | assumption | omega | rfl) only [q3, q4, y3, y4, y5, y6, w, w', hk, g1, g2, adv, bTr2, Option.bind_some, hdP, cd_n, cd_f, cd_T, cd_F, decide_true, decide_false]
theorem s_tf_B (h1 : CI ⟨o1, k1, e1⟩) (h2 : CI ⟨o2, k2, e2⟩) (hb : Binv ⟨L, P, D⟩ m) (hm : m < 1000000) (hb' : Binv ⟨L', P', D'⟩ m') (hm' : m' < 1000000) (hA : skp (remL ⟨o1, k1, e1⟩) = p :: r) (hB : skp (remL ⟨o2, k2, e2⟩) = q :: t) (hk : p.kind ≠ 2) (hk2 : q.kind ≠ 2) (okp : okPart p = true) (okq : okPart q = true)
    (hn : min (pSz p) (pSz q) = n) (h0 : 0 ≤ n) (n1 : n ≤ pSz p) (n2 : n ≤ pSz q) :
    ∃ c d : DL04Cur, x_spec_Transform_b0 o1 k1 e1 o2 k2 e2 L P D L' P' D' = some (.go (c.o, c.at_, c.done, d.o, d.at_, d.done, bTr2 ((emX (some (pCut p n), some (pCut q n))).foldl bPart ⟨L, P, D⟩) ((emY (some (pCut p n), some (pCut q n))).foldl bPart ⟨L', P', D'⟩))) ∧ CI c ∧ CI d ∧ remL c = pRst p n :: r ∧ remL d = pRst q n :: t := by
  obtain ⟨o', k', e', q1, q2, q3, q4⟩ := s_set h1 hA
  obtain ⟨u', j', i', y1, y2, y3, y4⟩ := s_set h2 hB
  have q5 := s_Left q1 q2
  have y5 := s_Left y1 y2
  have g := adv_ok q1 q2 h0 n1
  have g' := adv_ok y1 y2 h0 n2
  have g1 := adv_bd g.1
  have g2 := adv_bd g'.1
  have kp := k_ne0 okp
  have kc := (cut_ok okp h0 n1).2.1
  have kd := (cut_ok okq h0 n2).2.1
  refine ⟨adv ⟨o', k', e'⟩ n, adv ⟨u', j', i'⟩ n, ?_, g.1, g'.1, g.2, g'.2⟩
  have nb := nbd okp n1
  have wk := s_Keep (n := n) hb hm h0 nb
  have wd := s_Drop (n := n) hb hm h0 nb
  have wk' := s_Keep (n := n) hb' hm' h0 nb
  have wd' := s_Drop (n := n) hb' hm' h0 nb
  have sm := s_Min (pSz p) (pSz q)
  rw [hn] at sm
  have pk := okPart_cases okp
  have qk := okPart_cases okq
  have cn := cut_n (n := n) hk
  have cm := cut_n (n := n) hk2
  have P3 : p.kind ≠ 1 → p.kind = 3 := fun h => by rcases pk with ⟨g1, _⟩ | ⟨g1, _⟩ | ⟨g1, _⟩ <;> omega
  have Q3 : q.kind ≠ 1 → q.kind = 3 := fun h => by rcases qk with ⟨g1, _⟩ | ⟨g1, _⟩ | ⟨g1, _⟩ <;> omega
  clear pk qk okp okq hA hB h1 h2 q2 y2 hb hb'
  unfold x_spec_Transform_b0 emX emY
  by_cases c2 : p.kind = 1
  · by_cases c1 : q.kind = 1
    · have ep := bP_keep (b := ⟨L, P, D⟩) (p := pCut p n) (by omega)
      have eq := bP_keep (b := ⟨L', P', D'⟩) (p := pCut q n) (by omega)
      rw [cn] at ep; rw [cm] at eq
      simp (disch := first | assumption | omega | rfl) only [q3, q4, y3, y4, q5, y5, sm, wk, wk', kc, kd, c1, c2, List.foldl_cons, List.foldl_nil, ep, eq, adv, bTr2, Option.bind_some, hdP, cd_n, cd_f, cd_T, xg_I, decide_true, if_true]
    · have q3' := Q3 c1
      have eq := bP_drop (b := ⟨L', P', D'⟩) (p := pCut q n) (by omega)
      rw [cm] at eq
      simp (disch := first | assumption | omega | rfl) only [q3, q4, y3, y4, q5, y5, sm, wd', hk2, kc, kd, c1, c2, List.foldl_cons, List.foldl_nil, eq, adv, bTr2, Option.bind_some, hdP, cd_n, cd_f, cd_T, cd_F, xg_I, decide_true, decide_false, if_false, if_true]
  · have p3' := P3 c2
    by_cases c1 : q.kind = 1
    · have ep := bP_drop (b := ⟨L, P, D⟩) (p := pCut p n) (by omega)
      rw [cn] at ep
      simp (disch := first | assumption | omega | rfl) only [q3, q4, y3, y4, q5, y5, sm, wd, hk, kp, kc, kd, c1, c2, List.foldl_cons, List.foldl_nil, ep, adv, bTr2, Option.bind_some, hdP, cd_n, cd_f, cd_T, cd_F, xg_I, decide_true, decide_false, if_false, if_true]
    · simp (disch := first | assumption | omega | rfl) only [q3, q4, y3, y4, q5, y5, sm, hk, hk2, kp, kc, kd, c1, c2, List.foldl_nil, adv, bTr2, Option.bind_some, hdP, cd_n, cd_T, cd_F, xg_I, decide_false, if_false]
end
theorem emX_ok {p q : DPart} (hp : okPart p = true) : ∀ x ∈ emX (some p, some q), okPart x = true := fun x hx => by
  simp only [emX] at hx
  split at hx
  · simp only [List.mem_singleton] at hx; subst hx; exact hp
  · cases hx
theorem emY_ok {p q : DPart} (hq : okPart q = true) : ∀ x ∈ emY (some p, some q), okPart x = true := fun x hx => by
  simp only [emY] at hx
  split at hx
  · simp only [List.mem_singleton] at hx; subst hx; exact hq
  · cases hx
theorem s_tf_loop {a b : List DPart} (h : J 2 a b) (hl : szs a + szs b ≤ 100000) : iter x_spec_Transform_f0 (a, 0, 0, b, 0, 0, [], [], 0, [], [], 0) = some (bTr2 ((rawX a b).foldl bPart bNil) ((rawY a b).foldl bPart bNil)) := by
  have ca : CI ⟨a, 0, 0⟩ := ⟨h.oa, h.la, by simp, by simp, by simp, by simp, fun hk => (pSz_bd (h.oa _ (el_mem (l := a) (by simpa using hk)))).1⟩
  have cb : CI ⟨b, 0, 0⟩ := ⟨h.ob, h.lb, by simp, by simp, by simp, by simp, fun hk => (pSz_bd (h.ob _ (el_mem (l := b) (by simpa using hk)))).1⟩
  have ea : remL ⟨a, 0, 0⟩ = a := by rw [remL_0 _ _ (by omega)]; rfl
  have eb : remL ⟨b, 0, 0⟩ = b := by rw [remL_0 _ _ (by omega)]; rfl
  have key := loop_tr (f := 2) (F := x_spec_Transform_f0) (fun s => remL ⟨s.1, s.2.1, s.2.2.1⟩) (fun s => remL ⟨s.2.2.2.1, s.2.2.2.2.1, s.2.2.2.2.2.1⟩)
    (fun s => CI ⟨s.1, s.2.1, s.2.2.1⟩ ∧ CI ⟨s.2.2.2.1, s.2.2.2.2.1, s.2.2.2.2.2.1⟩ ∧ (∃ m : Nat, Binv ⟨s.2.2.2.2.2.2.1, s.2.2.2.2.2.2.2.1, s.2.2.2.2.2.2.2.2.1⟩ m ∧ (m : Int) + (szs (remL ⟨s.1, s.2.1, s.2.2.1⟩) + szs (remL ⟨s.2.2.2.1, s.2.2.2.2.1, s.2.2.2.2.2.1⟩)) ≤ 100000) ∧
      ∃ m : Nat, Binv ⟨s.2.2.2.2.2.2.2.2.2.1, s.2.2.2.2.2.2.2.2.2.2.1, s.2.2.2.2.2.2.2.2.2.2.2⟩ m ∧ (m : Int) + (szs (remL ⟨s.1, s.2.1, s.2.2.1⟩) + szs (remL ⟨s.2.2.2.1, s.2.2.2.2.1, s.2.2.2.2.2.1⟩)) ≤ 100000)
    (fun s l => bTr2 ((l.flatMap emX).foldl bPart ⟨s.2.2.2.2.2.2.1, s.2.2.2.2.2.2.2.1, s.2.2.2.2.2.2.2.2.1⟩) ((l.flatMap emY).foldl bPart ⟨s.2.2.2.2.2.2.2.2.2.1, s.2.2.2.2.2.2.2.2.2.2.1, s.2.2.2.2.2.2.2.2.2.2.2⟩)) (fun s hP h => by
    obtain ⟨o1, k1, e1, o2, k2, e2, L, P, D, L', P', D'⟩ := s
    dsimp only at hP h ⊢
    obtain ⟨h1, h2, ⟨m, hb, hm⟩, m', hb', hm'⟩ := hP
    have n1 := szs_nn h.oa
    have n2 := szs_nn h.ob
    have hz : m < 1000000 := by omega
    have hz' : m' < 1000000 := by omega
    rcases tr_cases h with ⟨hA, hB, ht⟩ | ⟨p, r, hA, hk, ok, hl, g1, g2, ht⟩ | ⟨q, t, hB, hk, ok, hl, hA, g1, g2, ht⟩ | ⟨p, r, q, t, n, hA, hB, hk, hk2, okp, okq, hl, hl2, hn, h0, h1', h2', g1, g2, ht⟩
    · exact .inr ⟨by unfold x_spec_Transform_f0; rw [s_tf_E h1 h2 hA hB]; rfl, ht⟩
    · obtain ⟨⟨co, ck, ce⟩, w1, w2, w3⟩ := s_tf_L (o2 := o2) (k2 := k2) (e2 := e2) h1 hb hz hb' hz' hA hk ok
      have okc := (cut_ok ok (pSz_bd ok).1 (Int.le_refl _)).1
      have w4 := binv_part hb (okPart_fair okc)
      have w5 := binv_part hb' (okPart_fair (okp_len okc))
      rw [← w3] at g1 g2 ht
      exact .inl ⟨_, (co, ck, ce, o2, k2, e2, bTr2 (bPart ⟨L, P, D⟩ (pCut p (pSz p))) (bPart ⟨L', P', D'⟩ ⟨1, ((pCut p (pSz p)).signs.length : Int), []⟩)), w1, ⟨w2, h2, ⟨m + 1, w4, by dsimp only; omega⟩, m' + 1, w5, by dsimp only; omega⟩, g1, g2, ht, fun l => by simp [emX, emY, bTr2]⟩
    · obtain ⟨⟨co, ck, ce⟩, ⟨do', dk, de⟩, w1, w2, w3, w4, w5⟩ := s_tf_R h1 h2 hb hz hb' hz' hB hk ok hA
      have okc := (cut_ok ok (pSz_bd ok).1 (Int.le_refl _)).1
      have w6 := binv_part hb (okPart_fair (okp_len okc))
      have w7 := binv_part hb' (okPart_fair okc)
      rw [← w4, ← w5] at g1 g2 ht
      exact .inl ⟨_, (co, ck, ce, do', dk, de, bTr2 (bPart ⟨L, P, D⟩ ⟨1, ((pCut q (pSz q)).signs.length : Int), []⟩) (bPart ⟨L', P', D'⟩ (pCut q (pSz q)))), w1, ⟨w2, w3, ⟨m + 1, w6, by dsimp only; omega⟩, m' + 1, w7, by dsimp only; omega⟩, g1, g2, ht, fun l => by simp [emX, emY, bTr2]⟩
    · obtain ⟨⟨co, ck, ce⟩, ⟨do', dk, de⟩, w1, w2, w3, w4, w5⟩ := s_tf_B h1 h2 hb hz hb' hz' hA hB hk hk2 okp okq hn h0 h1' h2'
      have w6 := binv_fold (okf (emX_ok (q := pCut q n) (cut_ok okp h0 h1').1)) hb
      have w7 := emX_len (some (pCut p n), some (pCut q n))
      have w8 := binv_fold (okf (emY_ok (p := pCut p n) (cut_ok okq h0 h2').1)) hb'
      have w9 := emY_len (some (pCut p n), some (pCut q n))
      rw [← w4, ← w5] at g1 g2 ht
      exact .inl ⟨_, (co, ck, ce, do', dk, de, bTr2 ((emX (some (pCut p n), some (pCut q n))).foldl bPart ⟨L, P, D⟩) ((emY (some (pCut p n), some (pCut q n))).foldl bPart ⟨L', P', D'⟩)), w1, ⟨w2, w3, ⟨_, w6, by dsimp only; omega⟩, _, w8, by dsimp only; omega⟩, g1, g2, ht, fun l => by rw [List.flatMap_cons, List.foldl_append, List.flatMap_cons, List.foldl_append]; rfl⟩)
    (a, 0, 0, b, 0, 0, [], [], 0, [], [], 0) ⟨ca, cb, ⟨0, binv_nil, by dsimp only; rw [ea, eb]; omega⟩, 0, binv_nil, by dsimp only; rw [ea, eb]; omega⟩ (by dsimp only; rw [ea, eb]; exact h)
  dsimp only at key
  rw [ea, eb] at key
  exact key
theorem s_Transform (a b : List DPart) : x_spec_Transform a b = some (led a b) := by
  unfold x_spec_Transform led
  simp only [s_OpOk, s_OpFrom, Option.bind_some]
  cases ha : okOp a with
  | false => simp
  | true =>
    cases hb : okOp b with
    | false => simp
    | true =>
      simp only [okOp_parts ha, okOp_parts hb, if_true, Bool.not_true, cd_F, Option.bind_some]
      by_cases hf : fromOf a = fromOf b
      · obtain ⟨j, hl⟩ := J2 ha hb hf
        have g := rawX_ok j hl
        have g' := rawY_ok j hl
        have w := binv_fold (okf g.1) binv_nil
        have w' := binv_fold (okf g'.1) binv_nil
        rw [decide_eq_true hf, Bool.not_true, cd_F, s_tf_loop j hl, Option.bind_some]
        have e := s_Done w (by omega)
        have e' := s_Done w' (by omega)
        show (Option.bind (x_spec_l02Done ((rawX a b).foldl bPart bNil)) fun r885 => Option.bind (x_spec_l02Done ((rawY a b).foldl bPart bNil)) fun r894 => _) = _
        rw [e, Option.bind_some, e', Option.bind_some]
        simp only
        show (Option.bind (bif !okOp (ledX a b) then _ else some (!okOp (ledY a b))) fun c680 => _) = _
        cases hc : okOp (ledX a b) with
        | false => simp
        | true =>
          cases hd : okOp (ledY a b) with
          | false => simp
          | true => simp [hf]; exact ⟨rfl, rfl⟩
      · rw [decide_eq_false hf]; simp [hf]
end Go.Proofs.YtlgmikaemfbmaaaGreat
