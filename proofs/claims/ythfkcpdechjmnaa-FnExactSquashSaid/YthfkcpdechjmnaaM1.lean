/- Composed and led past: the loops of the reference, walked. No condition. -/
import Derived.Test.YthfkcpdechjmnaaMv
namespace Go.Proofs.Ythfkcpdechjmnaa

theorem s_KindS {c : DL04Cur} (h : CI c) (hs : skp (remL c) = remL c) : x_spec_l04Kind c = some ((hdP (remL c)).kind, c) := by
  obtain ⟨r, h1, h2⟩ := iter_ex (f := x_spec_l04Kind_f0 c) (fun s => s = (c.at_, c.done)) (fun _ => 0) (fun r => r = (c.at_, c.done)) (fun s hP => by
    subst hP
    refine .inr ⟨_, ?_, rfl⟩
    have a0 := h.a0; have a1 := h.a1; have d0 := h.d0
    unfold x_spec_l04Kind_f0 x_spec_l04Kind_b0
    dsimp only
    by_cases hk : c.at_ < c.o.length
    · have ok := h.el hk
      have d2 := h.d2 hk
      have sz := (cut_ok ok d0 d2).2.2.2.2.2
      have e : remL c = pRst (el c.o c.at_.toNat) c.done :: c.o.drop (c.at_.toNat + 1) := by unfold remL; rw [if_pos hk]
      rw [e] at hs
      have := skp_cons hs
      rw [cd_t hk, xg_of ⟨a0, hk⟩, s_Size ok, Option.bind_some, Option.bind_some, cd_f (by omega)]
    · rw [cd_f hk]; rfl) (c.at_, c.done) rfl
  subst h2
  have a0 := h.a0; have a1 := h.a1
  unfold x_spec_l04Kind
  rw [h1, Option.bind_some]
  unfold remL
  by_cases hk : c.at_ = c.o.length
  · rw [cd_t hk, if_neg (by omega)]; rfl
  · have hlt : c.at_ < c.o.length := by omega
    rw [cd_f hk, xg_of ⟨a0, hlt⟩, if_pos hlt]
    simp only [hdP, (cut_ok (h.el hlt) h.d0 (h.d2 hlt)).2.2.2.2.1]
def bTr (b : DL02B) : List DPart × List Int × Int := (b.list, b.put, b.drop)
def bTr2 (b d : DL02B) : List DPart × List Int × Int × List DPart × List Int × Int := (b.list, b.put, b.drop, d.list, d.put, d.drop)
/-- The cursor, settled. -/
theorem s_set {o : List DPart} {k e : Int} (h : CI ⟨o, k, e⟩) {A : List DPart} (hA : skp (remL ⟨o, k, e⟩) = A) : ∃ o' k' e', CI ⟨o', k', e'⟩ ∧ remL ⟨o', k', e'⟩ = A ∧ x_spec_l04Kind ⟨o, k, e⟩ = some ((hdP A).kind, ⟨o', k', e'⟩) ∧ x_spec_l04Kind ⟨o', k', e'⟩ = some ((hdP A).kind, ⟨o', k', e'⟩) := by
  subst hA
  obtain ⟨⟨o', k', e'⟩, q1, q2, q3, q4⟩ := s_Kind h
  exact ⟨o', k', e', q2, q4, q1, by rw [← q4]; exact s_KindS q2 (by rw [q4]; exact skp_skp _)⟩
theorem adv_bd {o : List DPart} {k e n : Int} (h : CI (adv ⟨o, k, e⟩ n)) : 0 ≤ e + n ∧ e + n ≤ 200 := ⟨h.d0, h.d1⟩
theorem cut_len {p : DPart} {n : Int} (ok : okPart p = true) (h0 : 0 ≤ n) (h1 : n ≤ pSz p) : (pCut p n).signs.length ≤ 1000000 := by have := okPart_len (cut_ok ok h0 h1).1; omega
theorem nbd {p : DPart} {n : Int} (ok : okPart p = true) (h1 : n ≤ pSz p) : n ≤ 1000000 := by have := pSz_bd ok; omega

section
variable {o1 o2 r t L : List DPart} {k1 e1 k2 e2 D n : Int} {P : List Int} {p q : DPart} {m : Nat}
theorem s_comp_E (h1 : CI ⟨o1, k1, e1⟩) (h2 : CI ⟨o2, k2, e2⟩) (hA : skp (remL ⟨o1, k1, e1⟩) = []) (hB : skp (remL ⟨o2, k2, e2⟩) = []) : x_spec_Compose_b0 o1 k1 e1 o2 k2 e2 L P D = some (.out (L, P, D)) := by
  obtain ⟨o', k', e', q1, q2, q3, q4⟩ := s_set h1 hA
  obtain ⟨u', j', i', y1, y2, y3, y4⟩ := s_set h2 hB
  unfold x_spec_Compose_b0
  simp (disch := first | assumption | omega | rfl) only [q3, y3, Option.bind_some, hdP, cd_n, cd_T, cd_F, decide_true, Bool.not_true]
theorem s_comp_L (h1 : CI ⟨o1, k1, e1⟩) (hb : Binv ⟨L, P, D⟩ m) (hm : m < 1000000) (hA : skp (remL ⟨o1, k1, e1⟩) = p :: r) (hk : p.kind = 3) (ok : okPart p = true) :
    ∃ c : DL04Cur, x_spec_Compose_b0 o1 k1 e1 o2 k2 e2 L P D = some (.go (c.o, c.at_, c.done, o2, k2, e2, bTr (bPart ⟨L, P, D⟩ (pCut p (pSz p))))) ∧ CI c ∧ remL c = pRst p (pSz p) :: r := by
  obtain ⟨o', k', e', q1, q2, q3, q4⟩ := s_set h1 hA
  have q5 := s_Left q1 q2
  have bp := pSz_bd ok
  have g := adv_ok q1 q2 bp.1 (Int.le_refl _)
  have g1 := adv_bd g.1
  refine ⟨adv ⟨o', k', e'⟩ (pSz p), ?_, g.1, g.2⟩
  have w := s_Drop (n := pSz p) hb hm bp.1 (by omega)
  have k0 := k_ne0 ok
  rw [bP_drop (by rw [(cut_ok ok bp.1 (Int.le_refl _)).2.1]; exact hk), cut_n (by omega)]
  clear hA h1 q2 ok
  unfold x_spec_Compose_b0
  simp (disch := first | assumption | omega | rfl) only [q3, q4, q5, w, hk, adv, bTr, Option.bind_some, hdP, cd_n, cd_f, cd_T, cd_F, xg_I, decide_true]
theorem s_comp_R (h1 : CI ⟨o1, k1, e1⟩) (h2 : CI ⟨o2, k2, e2⟩) (hb : Binv ⟨L, P, D⟩ m) (hm : m < 1000000) (hB : skp (remL ⟨o2, k2, e2⟩) = q :: t) (hk : q.kind = 2) (ok : okPart q = true)
    (hA : skp (remL ⟨o1, k1, e1⟩) = [] ∨ ∃ p r, skp (remL ⟨o1, k1, e1⟩) = p :: r ∧ p.kind ≠ 3 ∧ p.kind ≠ 0) :
    ∃ c d : DL04Cur, x_spec_Compose_b0 o1 k1 e1 o2 k2 e2 L P D = some (.go (c.o, c.at_, c.done, d.o, d.at_, d.done, bTr (bPart ⟨L, P, D⟩ (pCut q (pSz q))))) ∧ CI c ∧ CI d ∧ remL c = skp (remL ⟨o1, k1, e1⟩) ∧ remL d = pRst q (pSz q) :: t := by
  obtain ⟨u', j', i', y1, y2, y3, y4⟩ := s_set h2 hB
  have y5 := s_Left y1 y2
  have bq := pSz_bd ok
  have g := adv_ok y1 y2 bq.1 (Int.le_refl _)
  have y6 := s_Take y1 y2 bq.1 (Int.le_refl _) hk
  have w := s_Put hb hm (cut_len ok bq.1 (Int.le_refl _))
  have k0 := k_ne0 ok
  rw [bP_put (by rw [(cut_ok ok bq.1 (Int.le_refl _)).2.1]; exact hk)]
  clear hB h2 y2 ok
  unfold x_spec_Compose_b0
  rcases hA with hA | ⟨p, r, hA, g1, g2⟩
  · obtain ⟨o', k', e', q1, q2, q3, q4⟩ := s_set h1 hA
    refine ⟨⟨o', k', e'⟩, adv ⟨u', j', i'⟩ (pSz q), ?_, q1, g.1, by rw [hA]; exact q2, g.2⟩
    clear hA h1 q2
    simp (disch := first | assumption | omega | rfl) only [q3, q4, y3, y4, y5, y6, w, hk, adv, bTr, Option.bind_some, hdP, cd_n, cd_f, cd_T, decide_true]
  · obtain ⟨o', k', e', q1, q2, q3, q4⟩ := s_set h1 hA
    refine ⟨⟨o', k', e'⟩, adv ⟨u', j', i'⟩ (pSz q), ?_, q1, g.1, by rw [hA]; exact q2, g.2⟩
    clear hA h1 q2
    simp (disch := first | assumption | omega | rfl) only [q3, q4, y3, y4, y5, y6, w, hk, g1, g2, adv, bTr, Option.bind_some, hdP, cd_n, cd_f, cd_T, cd_F, decide_true, decide_false]
theorem s_comp_B (h1 : CI ⟨o1, k1, e1⟩) (h2 : CI ⟨o2, k2, e2⟩) (hb : Binv ⟨L, P, D⟩ m) (hm : m < 1000000) (hA : skp (remL ⟨o1, k1, e1⟩) = p :: r) (hB : skp (remL ⟨o2, k2, e2⟩) = q :: t) (hk : p.kind ≠ 3) (hk2 : q.kind ≠ 2) (okp : okPart p = true) (okq : okPart q = true)
    (hn : min (pSz p) (pSz q) = n) (h0 : 0 ≤ n) (n1 : n ≤ pSz p) (n2 : n ≤ pSz q) :
    ∃ c d : DL04Cur, x_spec_Compose_b0 o1 k1 e1 o2 k2 e2 L P D = some (.go (c.o, c.at_, c.done, d.o, d.at_, d.done, bTr ((emC (some (pCut p n), some (pCut q n))).foldl bPart ⟨L, P, D⟩))) ∧ CI c ∧ CI d ∧ remL c = pRst p n :: r ∧ remL d = pRst q n :: t := by
  obtain ⟨o', k', e', q1, q2, q3, q4⟩ := s_set h1 hA
  obtain ⟨u', j', i', y1, y2, y3, y4⟩ := s_set h2 hB
  have q5 := s_Left q1 q2
  have y5 := s_Left y1 y2
  have g := adv_ok q1 q2 h0 n1
  have g' := adv_ok y1 y2 h0 n2
  have g1 := adv_bd g.1
  have g2 := adv_bd g'.1
  have kp := k_ne0 okp
  have kc := (cut_ok okp h0 n1).2.1
  have kd := (cut_ok okq h0 n2).2.1
  refine ⟨adv ⟨o', k', e'⟩ n, adv ⟨u', j', i'⟩ n, ?_, g.1, g'.1, g.2, g'.2⟩
  have nb := nbd okp n1
  have wk := s_Keep (n := n) hb hm h0 nb
  have wd := s_Drop (n := n) hb hm h0 nb
  have sm := s_Min (pSz p) (pSz q)
  rw [hn] at sm
  have pk := okPart_cases okp
  have qk := okPart_cases okq
  unfold x_spec_Compose_b0 emC
  by_cases c2 : p.kind = 2
  · have q6 := s_Take q1 q2 h0 n1 c2
    have wp := s_Put hb hm (cut_len okp h0 n1)
    have ep := bP_put (b := ⟨L, P, D⟩) (p := pCut p n) (by omega)
    clear hA hB h1 h2 q2 y2 pk
    by_cases c1 : q.kind = 1
    · clear qk okp okq
      simp (disch := first | assumption | omega | rfl) only [q3, q4, y3, y4, q5, y5, sm, q6, wp, kc, kd, c1, c2, List.foldl_cons, List.foldl_nil, ep, adv, bTr, Option.bind_some, hdP, cd_n, cd_f, cd_T, xg_I, decide_true, if_true]
    · clear qk okp okq
      simp (disch := first | assumption | omega | rfl) only [q3, q4, y3, y4, q5, y5, sm, hk2, kc, kd, c1, c2, adv, bTr, Option.bind_some, hdP, cd_n, cd_f, cd_T, cd_F, xg_I, decide_true, decide_false, if_false]
      rfl
  · have pk1 : p.kind = 1 := by
      rcases pk with ⟨g1, _⟩ | ⟨g1, _⟩ | ⟨g1, _⟩ <;> omega
    clear hA hB h1 h2 q2 y2 pk
    by_cases c1 : q.kind = 1
    · have ep := bP_keep (b := ⟨L, P, D⟩) (p := pCut p n) (by omega)
      rw [cut_n c2] at ep
      clear qk okp okq
      simp (disch := first | assumption | omega | rfl) only [q3, q4, y3, y4, q5, y5, sm, wk, kc, kd, c1, pk1, List.foldl_cons, List.foldl_nil, ep, adv, bTr, Option.bind_some, hdP, cd_n, cd_f, cd_T, cd_F, xg_I, decide_true, if_true]
    · have qk3 : q.kind = 3 := by
        rcases qk with ⟨g1, _⟩ | ⟨g1, _⟩ | ⟨g1, _⟩ <;> omega
      have ep := bP_drop (b := ⟨L, P, D⟩) (p := pCut q n) (by omega)
      rw [cut_n hk2] at ep
      clear qk okp okq
      simp (disch := first | assumption | omega | rfl) only [q3, q4, y3, y4, q5, y5, sm, wd, hk2, kc, kd, c1, pk1, List.foldl_cons, List.foldl_nil, ep, adv, bTr, Option.bind_some, hdP, cd_n, cd_f, cd_T, cd_F, xg_I, decide_false, if_false, if_true]
end
theorem okf {l : List DPart} (h : ∀ p ∈ l, okPart p = true) : ∀ p ∈ l, fair p := fun p hp => okPart_fair (h p hp)
theorem emC_ok {p q : DPart} (hp : okPart p = true) (hq : okPart q = true) : ∀ x ∈ emC (some p, some q), okPart x = true := fun x hx => by
  simp only [emC] at hx
  split at hx
  · simp only [List.mem_singleton] at hx; subst hx; exact hp
  · split at hx
    · simp only [List.mem_singleton] at hx; subst hx; exact hq
    · cases hx
theorem s_comp_loop {a b : List DPart} (h : J 3 a b) (hl : szs a + szs b ≤ 100000) : iter x_spec_Compose_f0 (a, 0, 0, b, 0, 0, [], [], 0) = some (bTr ((rawC a b).foldl bPart bNil)) := by
  have ca : CI ⟨a, 0, 0⟩ := ⟨h.oa, h.la, by simp, by simp, by simp, by simp, fun hk => (pSz_bd (h.oa _ (el_mem (l := a) (by simpa using hk)))).1⟩
  have cb : CI ⟨b, 0, 0⟩ := ⟨h.ob, h.lb, by simp, by simp, by simp, by simp, fun hk => (pSz_bd (h.ob _ (el_mem (l := b) (by simpa using hk)))).1⟩
  have ea : remL ⟨a, 0, 0⟩ = a := by rw [remL_0 _ _ (by omega)]; rfl
  have eb : remL ⟨b, 0, 0⟩ = b := by rw [remL_0 _ _ (by omega)]; rfl
  have key := loop_tr (f := 3) (F := x_spec_Compose_f0) (fun s => remL ⟨s.1, s.2.1, s.2.2.1⟩) (fun s => remL ⟨s.2.2.2.1, s.2.2.2.2.1, s.2.2.2.2.2.1⟩)
    (fun s => CI ⟨s.1, s.2.1, s.2.2.1⟩ ∧ CI ⟨s.2.2.2.1, s.2.2.2.2.1, s.2.2.2.2.2.1⟩ ∧ ∃ m : Nat, Binv ⟨s.2.2.2.2.2.2.1, s.2.2.2.2.2.2.2.1, s.2.2.2.2.2.2.2.2⟩ m ∧ (m : Int) + (szs (remL ⟨s.1, s.2.1, s.2.2.1⟩) + szs (remL ⟨s.2.2.2.1, s.2.2.2.2.1, s.2.2.2.2.2.1⟩)) ≤ 100000)
    (fun s l => bTr ((l.flatMap emC).foldl bPart ⟨s.2.2.2.2.2.2.1, s.2.2.2.2.2.2.2.1, s.2.2.2.2.2.2.2.2⟩)) (fun s hP h => by
    obtain ⟨o1, k1, e1, o2, k2, e2, L, P, D⟩ := s
    dsimp only at hP h ⊢
    obtain ⟨h1, h2, m, hb, hm⟩ := hP
    have n1 := szs_nn h.oa
    have n2 := szs_nn h.ob
    have hm' : m < 1000000 := by omega
    rcases tr_cases h with ⟨hA, hB, ht⟩ | ⟨p, r, hA, hk, ok, hl, g1, g2, ht⟩ | ⟨q, t, hB, hk, ok, hl, hA, g1, g2, ht⟩ | ⟨p, r, q, t, n, hA, hB, hk, hk2, okp, okq, hl, hl2, hn, h0, h1', h2', g1, g2, ht⟩
    · exact .inr ⟨by unfold x_spec_Compose_f0; rw [s_comp_E h1 h2 hA hB]; rfl, ht⟩
    · obtain ⟨⟨co, ck, ce⟩, w1, w2, w3⟩ := s_comp_L (o2 := o2) (k2 := k2) (e2 := e2) h1 hb hm' hA hk ok
      have okc := (cut_ok ok (pSz_bd ok).1 (Int.le_refl _)).1
      have w4 := binv_part hb (okPart_fair okc)
      rw [← w3] at g1 g2 ht
      exact .inl ⟨_, (co, ck, ce, o2, k2, e2, bTr (bPart ⟨L, P, D⟩ (pCut p (pSz p)))), w1, ⟨w2, h2, m + 1, w4, by dsimp only; omega⟩, g1, g2, ht, fun l => by simp [emC, bTr]⟩
    · obtain ⟨⟨co, ck, ce⟩, ⟨do', dk, de⟩, w1, w2, w3, w4, w5⟩ := s_comp_R h1 h2 hb hm' hB hk ok hA
      have okc := (cut_ok ok (pSz_bd ok).1 (Int.le_refl _)).1
      have w6 := binv_part hb (okPart_fair okc)
      rw [← w4, ← w5] at g1 g2 ht
      exact .inl ⟨_, (co, ck, ce, do', dk, de, bTr (bPart ⟨L, P, D⟩ (pCut q (pSz q)))), w1, ⟨w2, w3, m + 1, w6, by dsimp only; omega⟩, g1, g2, ht, fun l => by simp [emC, bTr]⟩
    · obtain ⟨⟨co, ck, ce⟩, ⟨do', dk, de⟩, w1, w2, w3, w4, w5⟩ := s_comp_B h1 h2 hb hm' hA hB hk hk2 okp okq hn h0 h1' h2'
      have w6 := binv_fold (okf (emC_ok (cut_ok okp h0 h1').1 (cut_ok okq h0 h2').1)) hb
      have w7 := emC_len (some (pCut p n), some (pCut q n))
      rw [← w4, ← w5] at g1 g2 ht
      exact .inl ⟨_, (co, ck, ce, do', dk, de, bTr ((emC (some (pCut p n), some (pCut q n))).foldl bPart ⟨L, P, D⟩)), w1, ⟨w2, w3, _, w6, by dsimp only; omega⟩, g1, g2, ht, fun l => by rw [List.flatMap_cons, List.foldl_append]; rfl⟩) (a, 0, 0, b, 0, 0, [], [], 0) ⟨ca, cb, 0, binv_nil, by dsimp only; rw [ea, eb]; omega⟩ (by dsimp only; rw [ea, eb]; exact h)
  dsimp only at key
  rw [ea, eb] at key
  exact key
theorem s_Compose (a b : List DPart) : x_spec_Compose a b = some (compose a b) := by
  unfold x_spec_Compose compose
  simp only [s_OpOk, s_OpTo, s_OpFrom, Option.bind_some]
  cases ha : okOp a with
  | false => simp
  | true =>
    cases hb : okOp b with
    | false => simp
    | true =>
      simp only [okOp_parts ha, okOp_parts hb, if_true, Bool.not_true, cd_F, Option.bind_some]
      by_cases hf : toOf a = fromOf b
      · obtain ⟨j, hl⟩ := J3 ha hb hf
        have g := rawC_ok j hl
        have w := binv_fold (okf g.1) binv_nil
        rw [decide_eq_true hf, Bool.not_true, cd_F, s_comp_loop j hl, Option.bind_some]
        have e := s_Done w (by omega)
        show (Option.bind (x_spec_l02Done ((rawC a b).foldl bPart bNil)) fun r789 => _) = _
        rw [e, Option.bind_some]
        simp only
        show (bif !okOp (comp a b) then _ else _) = _
        cases hc : okOp (comp a b) with
        | false => simp
        | true => simp [hf]; rfl
      · rw [decide_eq_false hf]; simp [hf]
end Go.Proofs.Ythfkcpdechjmnaa
