/- Led past: the loop of the reference, walked. No condition. -/
import Derived.Test.YtlgmikaemfbmaaaGreatM1
namespace Go.Proofs.YtlgmikaemfbmaaaGreat

section
variable {o1 o2 r t L L' : List DPart} {k1 e1 k2 e2 D D' n : Int} {P P' : List Int} {p q : DPart} {m m' : Nat}
theorem s_tf_E (h1 : CI ⟨o1, k1, e1⟩) (h2 : CI ⟨o2, k2, e2⟩) (hA : skp (remL ⟨o1, k1, e1⟩) = []) (hB : skp (remL ⟨o2, k2, e2⟩) = []) : x_spec_Transform_b0 o1 k1 e1 o2 k2 e2 L P D L' P' D' = some (.out (L, P, D, L', P', D')) := by
  obtain ⟨o', k', e', q1, q2, q3, q4⟩ := s_set h1 hA
  obtain ⟨u', j', i', y1, y2, y3, y4⟩ := s_set h2 hB
  unfold x_spec_Transform_b0
  simp (disch := first | assumption | omega | rfl) only [q3, y3, Option.bind_some, hdP, cd_n, cd_T, cd_F, decide_true, Bool.not_true]
theorem s_tf_L (h1 : CI ⟨o1, k1, e1⟩) (hb : Binv ⟨L, P, D⟩ m) (hm : m < 1000000) (hb' : Binv ⟨L', P', D'⟩ m') (hm' : m' < 1000000) (hA : skp (remL ⟨o1, k1, e1⟩) = p :: r) (hk : p.kind = 2) (ok : okPart p = true) :
    ∃ c : DL04Cur, x_spec_Transform_b0 o1 k1 e1 o2 k2 e2 L P D L' P' D' = some (.go (c.o, c.at_, c.done, o2, k2, e2, bTr2 (bPart ⟨L, P, D⟩ (pCut p (pSz p))) (bPart ⟨L', P', D'⟩ ⟨1, ((pCut p (pSz p)).signs.length : Int), []⟩))) ∧ CI c ∧ remL c = pRst p (pSz p) :: r := by
  obtain ⟨o', k', e', q1, q2, q3, q4⟩ := s_set h1 hA
  have q5 := s_Left q1 q2
  have bp := pSz_bd ok
  have g := adv_ok q1 q2 bp.1 (Int.le_refl _)
  have q6 := s_Take q1 q2 bp.1 (Int.le_refl _) hk
  refine ⟨adv ⟨o', k', e'⟩ (pSz p), ?_, g.1, g.2⟩
  have w := s_Put hb hm (cut_len ok bp.1 (Int.le_refl _))
  have w' := s_Keep (n := pSz p) hb' hm' bp.1 (by omega)
  have k0 := k_ne0 ok
  rw [bP_put (by rw [(cut_ok ok bp.1 (Int.le_refl _)).2.1]; exact hk), bP_keep rfl, cut_sl ok hk bp.1 (Int.le_refl _)]
  clear hA h1 q2 ok
  unfold x_spec_Transform_b0
  simp (disch := first | assumption | omega | rfl) only [q3, q4, q5, q6, w, w', hk, adv, bTr2, Option.bind_some, hdP, cd_n, cd_f, cd_T, cd_F, decide_true]
theorem s_tf_R (h1 : CI ⟨o1, k1, e1⟩) (h2 : CI ⟨o2, k2, e2⟩) (hb : Binv ⟨L, P, D⟩ m) (hm : m < 1000000) (hb' : Binv ⟨L', P', D'⟩ m') (hm' : m' < 1000000) (hB : skp (remL ⟨o2, k2, e2⟩) = q :: t) (hk : q.kind = 2) (ok : okPart q = true)
    (hA : skp (remL ⟨o1, k1, e1⟩) = [] ∨ ∃ p r, skp (remL ⟨o1, k1, e1⟩) = p :: r ∧ p.kind ≠ 2 ∧ p.kind ≠ 0) :
    ∃ c d : DL04Cur, x_spec_Transform_b0 o1 k1 e1 o2 k2 e2 L P D L' P' D' = some (.go (c.o, c.at_, c.done, d.o, d.at_, d.done, bTr2 (bPart ⟨L, P, D⟩ ⟨1, ((pCut q (pSz q)).signs.length : Int), []⟩) (bPart ⟨L', P', D'⟩ (pCut q (pSz q))))) ∧ CI c ∧ CI d ∧ remL c = skp (remL ⟨o1, k1, e1⟩) ∧ remL d = pRst q (pSz q) :: t := by
  obtain ⟨u', j', i', y1, y2, y3, y4⟩ := s_set h2 hB
  have y5 := s_Left y1 y2
  have bq := pSz_bd ok
  have g := adv_ok y1 y2 bq.1 (Int.le_refl _)
  have y6 := s_Take y1 y2 bq.1 (Int.le_refl _) hk
  have w := s_Put hb' hm' (cut_len ok bq.1 (Int.le_refl _))
  have w' := s_Keep (n := pSz q) hb hm bq.1 (by omega)
  have k0 := k_ne0 ok
  rw [bP_put (p := pCut q (pSz q)) (by rw [(cut_ok ok bq.1 (Int.le_refl _)).2.1]; exact hk), bP_keep rfl, cut_sl ok hk bq.1 (Int.le_refl _)]
  clear hB h2 y2 ok
  unfold x_spec_Transform_b0
  rcases hA with hA | ⟨p, r, hA, g1, g2⟩
  · obtain ⟨o', k', e', q1, q2, q3, q4⟩ := s_set h1 hA
    refine ⟨⟨o', k', e'⟩, adv ⟨u', j', i'⟩ (pSz q), ?_, q1, g.1, by rw [hA]; exact q2, g.2⟩
    clear hA h1 q2
    simp (disch := first | assumption | omega | rfl) only [q3, q4, y3, y4, y5, y6, w, w', hk, adv, bTr2, Option.bind_some, hdP, cd_n, cd_f, cd_T, decide_true]
  · obtain ⟨o', k', e', q1, q2, q3, q4⟩ := s_set h1 hA
    refine ⟨⟨o', k', e'⟩, adv ⟨u', j', i'⟩ (pSz q), ?_, q1, g.1, by rw [hA]; exact q2, g.2⟩
    clear hA h1 q2
    simp (disch := first | assumption | omega | rfl) only [q3, q4, y3, y4, y5, y6, w, w', hk, g1, g2, adv, bTr2, Option.bind_some, hdP, cd_n, cd_f, cd_T, cd_F, decide_true, decide_false]
theorem s_tf_B (h1 : CI ⟨o1, k1, e1⟩) (h2 : CI ⟨o2, k2, e2⟩) (hb : Binv ⟨L, P, D⟩ m) (hm : m < 1000000) (hb' : Binv ⟨L', P', D'⟩ m') (hm' : m' < 1000000) (hA : skp (remL ⟨o1, k1, e1⟩) = p :: r) (hB : skp (remL ⟨o2, k2, e2⟩) = q :: t) (hk : p.kind ≠ 2) (hk2 : q.kind ≠ 2) (okp : okPart p = true) (okq : okPart q = true)
    (hn : min (pSz p) (pSz q) = n) (h0 : 0 ≤ n) (n1 : n ≤ pSz p) (n2 : n ≤ pSz q) :
    ∃ c d : DL04Cur, x_spec_Transform_b0 o1 k1 e1 o2 k2 e2 L P D L' P' D' = some (.go (c.o, c.at_, c.done, d.o, d.at_, d.done, bTr2 ((emX (some (pCut p n), some (pCut q n))).foldl bPart ⟨L, P, D⟩) ((emY (some (pCut p n), some (pCut q n))).foldl bPart ⟨L', P', D'⟩))) ∧ CI c ∧ CI d ∧ remL c = pRst p n :: r ∧ remL d = pRst q n :: t := by
  obtain ⟨o', k', e', q1, q2, q3, q4⟩ := s_set h1 hA
  obtain ⟨u', j', i', y1, y2, y3, y4⟩ := s_set h2 hB
  have q5 := s_Left q1 q2
  have y5 := s_Left y1 y2
  have g := adv_ok q1 q2 h0 n1
  have g' := adv_ok y1 y2 h0 n2
  have g1 := adv_bd g.1
  have g2 := adv_bd g'.1
  have kp := k_ne0 okp
  have kc := (cut_ok okp h0 n1).2.1
  have kd := (cut_ok okq h0 n2).2.1
  refine ⟨adv ⟨o', k', e'⟩ n, adv ⟨u', j', i'⟩ n, ?_, g.1, g'.1, g.2, g'.2⟩
  have nb := nbd okp n1
  have wk := s_Keep (n := n) hb hm h0 nb
  have wd := s_Drop (n := n) hb hm h0 nb
  have wk' := s_Keep (n := n) hb' hm' h0 nb
  have wd' := s_Drop (n := n) hb' hm' h0 nb
  have sm := s_Min (pSz p) (pSz q)
  rw [hn] at sm
  have pk := okPart_cases okp
  have qk := okPart_cases okq
  have cn := cut_n (n := n) hk
  have cm := cut_n (n := n) hk2
  have P3 : p.kind ≠ 1 → p.kind = 3 := fun h => by rcases pk with ⟨g1, _⟩ | ⟨g1, _⟩ | ⟨g1, _⟩ <;> omega
  have Q3 : q.kind ≠ 1 → q.kind = 3 := fun h => by rcases qk with ⟨g1, _⟩ | ⟨g1, _⟩ | ⟨g1, _⟩ <;> omega
  clear pk qk okp okq hA hB h1 h2 q2 y2 hb hb'
  unfold x_spec_Transform_b0 emX emY
  by_cases c2 : p.kind = 1
  · by_cases c1 : q.kind = 1
    · have ep := bP_keep (b := ⟨L, P, D⟩) (p := pCut p n) (by omega)
      have eq := bP_keep (b := ⟨L', P', D'⟩) (p := pCut q n) (by omega)
      rw [cn] at ep; rw [cm] at eq
      simp (disch := first | assumption | omega | rfl) only [q3, q4, y3, y4, q5, y5, sm, wk, wk', kc, kd, c1, c2, List.foldl_cons, List.foldl_nil, ep, eq, adv, bTr2, Option.bind_some, hdP, cd_n, cd_f, cd_T, xg_I, decide_true, if_true]
    · have q3' := Q3 c1
      have eq := bP_drop (b := ⟨L', P', D'⟩) (p := pCut q n) (by omega)
      rw [cm] at eq
      simp (disch := first | assumption | omega | rfl) only [q3, q4, y3, y4, q5, y5, sm, wd', hk2, kc, kd, c1, c2, List.foldl_cons, List.foldl_nil, eq, adv, bTr2, Option.bind_some, hdP, cd_n, cd_f, cd_T, cd_F, xg_I, decide_true, decide_false, if_false, if_true]
  · have p3' := P3 c2
    by_cases c1 : q.kind = 1
    · have ep := bP_drop (b := ⟨L, P, D⟩) (p := pCut p n) (by omega)
      rw [cn] at ep
      simp (disch := first | assumption | omega | rfl) only [q3, q4, y3, y4, q5, y5, sm, wd, hk, kp, kc, kd, c1, c2, List.foldl_cons, List.foldl_nil, ep, adv, bTr2, Option.bind_some, hdP, cd_n, cd_f, cd_T, cd_F, xg_I, decide_true, decide_false, if_false, if_true]
    · simp (disch := first | assumption | omega | rfl) only [q3, q4, y3, y4, q5, y5, sm, hk, hk2, kp, kc, kd, c1, c2, List.foldl_nil, adv, bTr2, Option.bind_some, hdP, cd_n, cd_T, cd_F, xg_I, decide_false, if_false]
end
theorem emX_ok {p q : DPart} (hp : okPart p = true) : ∀ x ∈ emX (some p, some q), okPart x = true := fun x hx => by
  simp only [emX] at hx
  split at hx
  · simp only [List.mem_singleton] at hx; subst hx; exact hp
  · cases hx
theorem emY_ok {p q : DPart} (hq : okPart q = true) : ∀ x ∈ emY (some p, some q), okPart x = true := fun x hx => by
  simp only [emY] at hx
  split at hx
  · simp only [List.mem_singleton] at hx; subst hx; exact hq
  · cases hx
theorem s_tf_loop {a b : List DPart} (h : J 2 a b) (hl : szs a + szs b ≤ 100000) : iter x_spec_Transform_f0 (a, 0, 0, b, 0, 0, [], [], 0, [], [], 0) = some (bTr2 ((rawX a b).foldl bPart bNil) ((rawY a b).foldl bPart bNil)) := by
  have ca : CI ⟨a, 0, 0⟩ := ⟨h.oa, h.la, by simp, by simp, by simp, by simp, fun hk => (pSz_bd (h.oa _ (el_mem (l := a) (by simpa using hk)))).1⟩
  have cb : CI ⟨b, 0, 0⟩ := ⟨h.ob, h.lb, by simp, by simp, by simp, by simp, fun hk => (pSz_bd (h.ob _ (el_mem (l := b) (by simpa using hk)))).1⟩
  have ea : remL ⟨a, 0, 0⟩ = a := by rw [remL_0 _ _ (by omega)]; rfl
  have eb : remL ⟨b, 0, 0⟩ = b := by rw [remL_0 _ _ (by omega)]; rfl
  have key := loop_tr (f := 2) (F := x_spec_Transform_f0) (fun s => remL ⟨s.1, s.2.1, s.2.2.1⟩) (fun s => remL ⟨s.2.2.2.1, s.2.2.2.2.1, s.2.2.2.2.2.1⟩)
    (fun s => CI ⟨s.1, s.2.1, s.2.2.1⟩ ∧ CI ⟨s.2.2.2.1, s.2.2.2.2.1, s.2.2.2.2.2.1⟩ ∧ (∃ m : Nat, Binv ⟨s.2.2.2.2.2.2.1, s.2.2.2.2.2.2.2.1, s.2.2.2.2.2.2.2.2.1⟩ m ∧ (m : Int) + (szs (remL ⟨s.1, s.2.1, s.2.2.1⟩) + szs (remL ⟨s.2.2.2.1, s.2.2.2.2.1, s.2.2.2.2.2.1⟩)) ≤ 100000) ∧
      ∃ m : Nat, Binv ⟨s.2.2.2.2.2.2.2.2.2.1, s.2.2.2.2.2.2.2.2.2.2.1, s.2.2.2.2.2.2.2.2.2.2.2⟩ m ∧ (m : Int) + (szs (remL ⟨s.1, s.2.1, s.2.2.1⟩) + szs (remL ⟨s.2.2.2.1, s.2.2.2.2.1, s.2.2.2.2.2.1⟩)) ≤ 100000)
    (fun s l => bTr2 ((l.flatMap emX).foldl bPart ⟨s.2.2.2.2.2.2.1, s.2.2.2.2.2.2.2.1, s.2.2.2.2.2.2.2.2.1⟩) ((l.flatMap emY).foldl bPart ⟨s.2.2.2.2.2.2.2.2.2.1, s.2.2.2.2.2.2.2.2.2.2.1, s.2.2.2.2.2.2.2.2.2.2.2⟩)) (fun s hP h => by
    obtain ⟨o1, k1, e1, o2, k2, e2, L, P, D, L', P', D'⟩ := s
    dsimp only at hP h ⊢
    obtain ⟨h1, h2, ⟨m, hb, hm⟩, m', hb', hm'⟩ := hP
    have n1 := szs_nn h.oa
    have n2 := szs_nn h.ob
    have hz : m < 1000000 := by omega
    have hz' : m' < 1000000 := by omega
    rcases tr_cases h with ⟨hA, hB, ht⟩ | ⟨p, r, hA, hk, ok, hl, g1, g2, ht⟩ | ⟨q, t, hB, hk, ok, hl, hA, g1, g2, ht⟩ | ⟨p, r, q, t, n, hA, hB, hk, hk2, okp, okq, hl, hl2, hn, h0, h1', h2', g1, g2, ht⟩
    · exact .inr ⟨by unfold x_spec_Transform_f0; rw [s_tf_E h1 h2 hA hB]; rfl, ht⟩
    · obtain ⟨⟨co, ck, ce⟩, w1, w2, w3⟩ := s_tf_L (o2 := o2) (k2 := k2) (e2 := e2) h1 hb hz hb' hz' hA hk ok
      have okc := (cut_ok ok (pSz_bd ok).1 (Int.le_refl _)).1
      have w4 := binv_part hb (okPart_fair okc)
      have w5 := binv_part hb' (okPart_fair (okp_len okc))
      rw [← w3] at g1 g2 ht
      exact .inl ⟨_, (co, ck, ce, o2, k2, e2, bTr2 (bPart ⟨L, P, D⟩ (pCut p (pSz p))) (bPart ⟨L', P', D'⟩ ⟨1, ((pCut p (pSz p)).signs.length : Int), []⟩)), w1, ⟨w2, h2, ⟨m + 1, w4, by dsimp only; omega⟩, m' + 1, w5, by dsimp only; omega⟩, g1, g2, ht, fun l => by simp [emX, emY, bTr2]⟩
    · obtain ⟨⟨co, ck, ce⟩, ⟨do', dk, de⟩, w1, w2, w3, w4, w5⟩ := s_tf_R h1 h2 hb hz hb' hz' hB hk ok hA
      have okc := (cut_ok ok (pSz_bd ok).1 (Int.le_refl _)).1
      have w6 := binv_part hb (okPart_fair (okp_len okc))
      have w7 := binv_part hb' (okPart_fair okc)
      rw [← w4, ← w5] at g1 g2 ht
      exact .inl ⟨_, (co, ck, ce, do', dk, de, bTr2 (bPart ⟨L, P, D⟩ ⟨1, ((pCut q (pSz q)).signs.length : Int), []⟩) (bPart ⟨L', P', D'⟩ (pCut q (pSz q)))), w1, ⟨w2, w3, ⟨m + 1, w6, by dsimp only; omega⟩, m' + 1, w7, by dsimp only; omega⟩, g1, g2, ht, fun l => by simp [emX, emY, bTr2]⟩
    · obtain ⟨⟨co, ck, ce⟩, ⟨do', dk, de⟩, w1, w2, w3, w4, w5⟩ := s_tf_B h1 h2 hb hz hb' hz' hA hB hk hk2 okp okq hn h0 h1' h2'
      have w6 := binv_fold (okf (emX_ok (q := pCut q n) (cut_ok okp h0 h1').1)) hb
      have w7 := emX_len (some (pCut p n), some (pCut q n))
      have w8 := binv_fold (okf (emY_ok (p := pCut p n) (cut_ok okq h0 h2').1)) hb'
      have w9 := emY_len (some (pCut p n), some (pCut q n))
      rw [← w4, ← w5] at g1 g2 ht
      exact .inl ⟨_, (co, ck, ce, do', dk, de, bTr2 ((emX (some (pCut p n), some (pCut q n))).foldl bPart ⟨L, P, D⟩) ((emY (some (pCut p n), some (pCut q n))).foldl bPart ⟨L', P', D'⟩)), w1, ⟨w2, w3, ⟨_, w6, by dsimp only; omega⟩, _, w8, by dsimp only; omega⟩, g1, g2, ht, fun l => by rw [List.flatMap_cons, List.foldl_append, List.flatMap_cons, List.foldl_append]; rfl⟩)
    (a, 0, 0, b, 0, 0, [], [], 0, [], [], 0) ⟨ca, cb, ⟨0, binv_nil, by dsimp only; rw [ea, eb]; omega⟩, 0, binv_nil, by dsimp only; rw [ea, eb]; omega⟩ (by dsimp only; rw [ea, eb]; exact h)
  dsimp only at key
  rw [ea, eb] at key
  exact key
theorem s_Transform (a b : List DPart) : x_spec_Transform a b = some (led a b) := by
  unfold x_spec_Transform led
  simp only [s_OpOk, s_OpFrom, Option.bind_some]
  cases ha : okOp a with
  | false => simp
  | true =>
    cases hb : okOp b with
    | false => simp
    | true =>
      simp only [okOp_parts ha, okOp_parts hb, if_true, Bool.not_true, cd_F, Option.bind_some]
      by_cases hf : fromOf a = fromOf b
      · obtain ⟨j, hl⟩ := J2 ha hb hf
        have g := rawX_ok j hl
        have g' := rawY_ok j hl
        have w := binv_fold (okf g.1) binv_nil
        have w' := binv_fold (okf g'.1) binv_nil
        rw [decide_eq_true hf, Bool.not_true, cd_F, s_tf_loop j hl, Option.bind_some]
        have e := s_Done w (by omega)
        have e' := s_Done w' (by omega)
        show (Option.bind (x_spec_l02Done ((rawX a b).foldl bPart bNil)) fun r885 => Option.bind (x_spec_l02Done ((rawY a b).foldl bPart bNil)) fun r894 => _) = _
        rw [e, Option.bind_some, e', Option.bind_some]
        simp only
        show (Option.bind (bif !okOp (ledX a b) then _ else some (!okOp (ledY a b))) fun c680 => _) = _
        cases hc : okOp (ledX a b) with
        | false => simp
        | true =>
          cases hd : okOp (ledY a b) with
          | false => simp
          | true => simp [hf]; exact ⟨rfl, rfl⟩
      · rw [decide_eq_false hf]; simp [hf]
end Go.Proofs.YtlgmikaemfbmaaaGreat
