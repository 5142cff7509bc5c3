/- Marks: what the law asks. No condition. -/
import Derived.Test.YtdfjkipdmeomdaaDoorFm
import Derived.Test.YtdfjkipdmeomdaaDoorFt
import Derived.Test.YtdfjkipdmeomdaaDoorM9
import Derived.Test.YtdfjkipdmeomdaaDoorTL
namespace Go.Proofs.YtdfjkipdmeomdaaDoor
-- where a place comes to lie
theorem toOf_nn : ∀ {o : List DPart}, (∀ p ∈ o, okPart p = true) → 0 ≤ toOf o
  | [], _ => by
    have : toOf [] = 0 := rfl
    omega
  | q :: o, h => by
    have hq := h q (List.mem_cons_self ..)
    have ht : toOf (q :: o) = pTo q + toOf o := rfl
    have hn := toOf_nn (o := o) fun p hp => h p (List.mem_cons_of_mem _ hp)
    rcases okPart_cases hq with ⟨k1, n0, n1, s0⟩ | ⟨k2, n0, s1, _⟩ | ⟨k3, n0, n1, s0⟩
    · have e : pTo q = q.n := by simp [pTo, pKeep, pPut, k1]
      omega
    · have e : pTo q = q.signs.length := by simp [pTo, pKeep, pPut, k2]
      omega
    · have e : pTo q = 0 := by simp [pTo, pKeep, pPut, k3]
      omega
theorem keep_ok {n : Int} (h : 1 ≤ n) (h2 : n ≤ 200) : okOp [(⟨1, n, []⟩ : DPart)] = true := by
  have h0 : 0 ≤ n := by omega
  unfold okOp okParts okPart
  simp [fromOf, toOf, sumI, pFrom, pTo, pKeep, pDrop, pPut, h0, h2]
theorem shiftL_bd (a : Int) (after : Bool) : ∀ (o : List DPart) (i j : Int), (∀ p ∈ o, okPart p = true) → i ≤ a → j ≤ shiftL a after o i j ∧ shiftL a after o i j ≤ j + toOf o
  | [], i, j, _, _ => by
    have : toOf [] = 0 := rfl
    rw [shiftL, this]; omega
  | q :: o, i, j, h, hi => by
    have hq := h q (List.mem_cons_self ..)
    have ho : ∀ p ∈ o, okPart p = true := fun p hp => h p (List.mem_cons_of_mem _ hp)
    have ht : toOf (q :: o) = pTo q + toOf o := rfl
    have hn := toOf_nn ho
    rw [shiftL, ht]
    rcases okPart_cases hq with ⟨k1, n0, n1, s0⟩ | ⟨k2, n0, s1, _⟩ | ⟨k3, n0, n1, s0⟩
    · have e : pTo q = q.n := by simp [pTo, pKeep, pPut, k1]
      rw [if_pos k1, e]
      split
      · omega
      · have := shiftL_bd a after o (i + q.n) (j + q.n) ho (by omega); omega
    · have e : pTo q = q.signs.length := by simp [pTo, pKeep, pPut, k2]
      rw [if_neg (by omega), if_pos k2, e]
      split
      · omega
      · have := shiftL_bd a after o i (j + q.signs.length) ho hi; omega
    · have e : pTo q = 0 := by simp [pTo, pKeep, pPut, k3]
      rw [if_neg (by omega), if_neg (by omega), e]
      split
      · omega
      · have := shiftL_bd a after o (i + q.n) j ho (by omega); omega
theorem shift_bd {o : List DPart} (ho : okOp o = true) (a : Int) (after : Bool) : 0 ≤ (shift o a after).1 ∧ (shift o a after).1 ≤ toOf o := by
  have ht := okOp_to ho
  unfold shift
  split
  · rename_i h
    have hn := okOp_nrm ho
    have := shiftL_bd a after (nrm o) 0 0 (fun p hp => okParts_mem (okOp_parts hn) hp) h.2.1
    rw [to_nrm (okOp_kinds ho)] at this
    simp only
    omega
  · simp only; omega
theorem marksL_map {f : DMark → DMark} {n n' : Int} (hid : ∀ m, (f m).id = m.id) (hb : ∀ m, 0 ≤ (f m).from_ ∧ (f m).from_ ≤ (f m).to ∧ (f m).to ≤ n') : ∀ (l : List DMark) (p : Option Int), marksL n l p = true → marksL n' (l.map f) p = true
  | [], _, _ => rfl
  | m :: r, p, h => by
    simp only [marksL, Bool.and_eq_true] at h
    simp only [List.map_cons, marksL, Bool.and_eq_true, hid]
    exact ⟨⟨h.1.1, decide_eq_true (hb m)⟩, marksL_map hid hb r _ h.2⟩
theorem okMarks_moved {l : List DMark} {o : List DPart} {n : Int} (ho : okOp o = true) (h : okMarks l n = true) : okMarks (l.map (mvM o)) (toOf o) = true := by
  have ht := okOp_to ho
  unfold okMarks at h ⊢
  simp only [Bool.and_eq_true, decide_eq_true_eq, List.length_map] at h ⊢
  refine ⟨⟨ht, h.1.2⟩, marksL_map (f := mvM o) (fun _ => rfl) (fun m => ?_) l _ h.2⟩
  have h1 := shift_bd ho m.from_ true
  have h2 := shift_bd ho m.to false
  simp only [mvM]
  omega
theorem marksL_all {n : Int} : ∀ {l : List DMark} {p : Option Int}, marksL n l p = true → ∀ m ∈ l, (1 ≤ m.id ∧ m.id ≤ 1000000000) ∧ 0 ≤ m.from_ ∧ m.from_ ≤ m.to ∧ m.to ≤ n
  | [], _, _, m, hm => by cases hm
  | x :: r, p, h, m, hm => by
    simp only [marksL, Bool.and_eq_true, decide_eq_true_eq] at h
    rcases List.mem_cons.1 hm with rfl | hm
    · exact ⟨h.1.1.1, h.1.2⟩
    · exact marksL_all h.2 m hm
theorem okMarks_all {l : List DMark} {n : Int} (h : okMarks l n = true) : ∀ m ∈ l, (1 ≤ m.id ∧ m.id ≤ 1000000000) ∧ 0 ≤ m.from_ ∧ m.from_ ≤ m.to ∧ m.to ≤ n := by
  unfold okMarks at h
  simp only [Bool.and_eq_true] at h
  exact marksL_all h.2
-- an operation that keeps all
theorem i_Keeping (n : Int) : x_impl_Keeping n = some (if 1 ≤ n ∧ n ≤ 200 then [⟨1, n, []⟩] else []) := by
  unfold x_impl_Keeping
  rw [i_within, Option.bind_some, cd_n]
  by_cases h : 1 ≤ n ∧ n ≤ 200
  · rw [cd_t h, if_pos h]
  · rw [cd_f h, if_neg h]
theorem nrm_keep {n : Int} (h : 1 ≤ n) : nrm [(⟨1, n, []⟩ : DPart)] = [⟨1, n, []⟩] := by
  unfold nrm
  simp [bPart, bKeep, addKeep, flushL, bNil, show 0 < n by omega]
theorem shift_keep {n : Int} (h : 1 ≤ n) (h2 : n ≤ 200) {a : Int} (h0 : 0 ≤ a) (h1 : a ≤ n) (after : Bool) : (shift [⟨1, n, []⟩] a after).1 = a := by
  have hf : fromOf [(⟨1, n, []⟩ : DPart)] = n := by show pFrom _ + 0 = _; simp [pFrom, pKeep, pDrop]
  have hok := keep_ok h h2
  unfold shift
  rw [if_pos ⟨hok, h0, by omega⟩, nrm_keep h]
  simp only [shiftL, if_true]
  split
  · omega
  · omega
theorem shift_nil {a : Int} (after : Bool) : (shift [] a after).1 = 0 := by
  unfold shift
  split
  · rfl
  · rfl
theorem move_keep {l : List DMark} {n : Int} (h0 : 0 ≤ n) (h : okMarks l n = true) : marksMove l (if 1 ≤ n ∧ n ≤ 200 then [⟨1, n, []⟩] else []) = (l, true) := by
  have hn : n ≤ 200 := by
    unfold okMarks at h
    simp only [Bool.and_eq_true, decide_eq_true_eq] at h
    omega
  have ha := okMarks_all h
  by_cases h1 : 1 ≤ n
  · rw [if_pos ⟨h1, hn⟩]
    have hf : fromOf [(⟨1, n, []⟩ : DPart)] = n := by show pFrom _ + 0 = _; simp [pFrom, pKeep, pDrop]
    have hok := keep_ok h1 hn
    unfold marksMove
    rw [if_pos ⟨hok, by rw [hf]; exact h⟩]
    congr 1
    refine (List.map_congr_left fun m hm => ?_).trans (List.map_id l)
    obtain ⟨_, m0, m1, m2⟩ := ha m hm
    unfold mvM
    rw [shift_keep h1 hn m0 (by omega), shift_keep h1 hn (by omega) m2, Int.min_eq_left m1]
    rfl
  · rw [if_neg (by omega)]
    obtain rfl : n = 0 := by omega
    unfold marksMove
    rw [if_pos ⟨rfl, h⟩]
    congr 1
    refine (List.map_congr_left fun m hm => ?_).trans (List.map_id l)
    obtain ⟨_, m0, m1, m2⟩ := ha m hm
    unfold mvM
    rw [shift_nil, shift_nil]
    have e1 : m.from_ = 0 := by omega
    have e2 : m.to = 0 := by omega
    obtain ⟨a, b, c⟩ := m
    simp only at e1 e2
    subst e1; subst e2
    rfl
-- the marks at a place
def marksAt (l : List DMark) (i : Int) : List Int := (l.filter fun m => decide (m.from_ ≤ i) && decide (i < m.to)).map (·.id)
theorem i_MarksAt (l : List DMark) (i : Int) (hl : l.length ≤ 1048576) : x_impl_MarksAt l i = some (marksAt l i) := by
  unfold x_impl_MarksAt
  have h := each_run (F := x_impl_MarksAt_f0 i l) (e := fun (s : List Int) => s) l (fun r k s => s.length ≤ k) (fun r _ s => s ++ marksAt r i) (fun s _ => by simp [marksAt]) (fun x r k s hk hx hP => by
    refine .inl ⟨s ++ (bif decide (x.from_ ≤ i) && decide (i < x.to) then [x.id] else []), ?_, ?_, ?_⟩
    · unfold x_impl_MarksAt_f0 x_impl_MarksAt_b0
      rw [hx]
      cases decide (x.from_ ≤ i) with
      | false => simp
      | true =>
        simp only [cond_true, Option.bind_some, Bool.true_and]
        cases decide (i < x.to) with
        | false => simp
        | true => rw [cond_true, cond_true, xg_of (by omega)]
    · cases decide (x.from_ ≤ i) && decide (i < x.to) <;> simp <;> omega
    · unfold marksAt
      rw [List.filter_cons]
      cases decide (x.from_ ≤ i) && decide (i < x.to) <;> simp) [] (by simp)
  rw [h]
  simp
theorem i_MarkedAll {l : List DMark} {n : Int} (h : okMarks l n = true) : ∃ c, x_impl_MarkedAll l n = some c ∧ c ≤ n ∧ ((∀ i : Int, 0 ≤ i → i < n → 0 < (marksAt l i).length) → c = n) := by
  have h12 := okMarks_len h
  have hn : 0 ≤ n ∧ n ≤ 200 := by
    unfold okMarks at h
    simp only [Bool.and_eq_true, decide_eq_true_eq] at h
    omega
  unfold x_impl_MarkedAll
  rw [i_MarksOk l n (by omega), Option.bind_some, h, Bool.not_true, cond_false]
  obtain ⟨c, hc, c1, c2⟩ := iter_ex (f := x_impl_MarkedAll_f0 n l) (fun s => 0 ≤ s.1 ∧ s.1 ≤ s.2 ∧ s.2 ≤ n ∧ ((∀ i : Int, 0 ≤ i → i < n → 0 < (marksAt l i).length) → s.1 = s.2)) (fun s => (n - s.2).toNat)
    (fun c => c ≤ n ∧ ((∀ i : Int, 0 ≤ i → i < n → 0 < (marksAt l i).length) → c = n)) (fun s ⟨s0, s1, s2, s3⟩ => by
      unfold x_impl_MarkedAll_f0 x_impl_MarkedAll_b0
      by_cases hi : s.2 < n
      · rw [cd_t hi, i_MarksAt l _ (by omega), Option.bind_some]
        by_cases hp : 0 < (marksAt l s.2).length
        · rw [cd_t (by omega), xg_I (by omega) (by omega), xg_I (by omega) (by omega)]
          exact .inl ⟨_, rfl, ⟨by simp only; omega, by simp only; omega, by simp only; omega, fun hf => by have := s3 hf; simp only; omega⟩, by simp only; omega⟩
        · rw [cd_f (by omega), xg_I (by omega) (by omega)]
          exact .inl ⟨_, rfl, ⟨by simp only; omega, by simp only; omega, by simp only; omega, fun hf => absurd (hf s.2 (by omega) hi) hp⟩, by simp only; omega⟩
      · rw [cd_f hi]
        exact .inr ⟨_, rfl, by omega, fun hf => by have := s3 hf; omega⟩) (0, 0) ⟨by simp, by simp, hn.1, fun _ => rfl⟩
  exact ⟨c, by rw [hc]; rfl, c1, c2⟩
-- drawn marks
def small (l : List DMark) : Prop := ∀ m ∈ l, m.id ≤ 6
theorem insM_mem {m x : DMark} : ∀ {l : List DMark}, x ∈ insM m l → x = m ∨ x ∈ l
  | [], h => .inl (List.mem_singleton.1 h)
  | y :: r, h => by
    unfold insM at h
    by_cases hc : m.id < y.id
    · rw [cd_t hc] at h
      exact List.mem_cons.1 h
    · rw [cd_f hc] at h
      rcases List.mem_cons.1 h with rfl | h
      · exact .inr (List.mem_cons_self ..)
      · exact (insM_mem h).imp id (List.mem_cons_of_mem _)
theorem small_add {l : List DMark} {n : Int} {m : DMark} (hl : small l) (hm : m.id ≤ 6) (h : (markAdd l n m).2 = true) : small (markAdd l n m).1 ∧ okMarks (markAdd l n m).1 n = true ∧ (markAdd l n m).1.length ≤ l.length + 1 := by
  unfold markAdd at h ⊢
  cases e : okMarks l n && okMarks (insM m (dropM l m.id)) n with
  | false => rw [e] at h; cases h
  | true =>
    simp only [Bool.and_eq_true] at e
    simp only [cond_true]
    refine ⟨fun x hx => ?_, e.2, ?_⟩
    · rcases insM_mem hx with rfl | hx
      · exact hm
      · exact hl x (List.mem_filter.1 hx).1
    · rw [insM_len]
      have := dropM_len l m.id
      omega
theorem okMarks_nil {n : Int} (h0 : 0 ≤ n) (h1 : n ≤ 200) : okMarks [] n = true := by
  unfold okMarks marksL
  simp [h0, h1]
theorem s_23Draw (c : DL01Cur) (n : Int) (hc : cur c) (h0 : 0 ≤ n) (h1 : n ≤ 200) : ∃ l d, x_spec_l23Draw c n = some (l, d) ∧ small l ∧ okMarks l n = true ∧ l.length ≤ 4 := by
  unfold x_spec_l23Draw
  obtain ⟨k, d, g1, g2, g3⟩ := s_Below c 5 hc
  rw [g1, Option.bind_some]
  obtain ⟨y, hy, y1, y2, y3⟩ := iter_ex (f := x_spec_l23Draw_f0 n) (fun s => cur ⟨s.2.2.1, s.2.2.2.1, s.2.2.2.2⟩ ∧ small s.1 ∧ okMarks s.1 n = true ∧ 0 ≤ s.2.1 ∧ s.1.length + s.2.1 ≤ 4) (fun s => s.2.1.toNat)
    (fun y => small y.1 ∧ okMarks y.1 n = true ∧ y.1.length ≤ 4) (fun s ⟨p1, p2, p3, p4, p5⟩ => by
      obtain ⟨l, k, b, i, h⟩ := s
      simp only at p1 p2 p3 p4 p5
      unfold x_spec_l23Draw_f0 x_spec_l23Draw_b0
      simp only
      by_cases hk : 0 < k
      · obtain ⟨a, e, a1, a2, a3⟩ := s_Below ⟨b, i, h⟩ (n + 1) p1
        obtain ⟨u, f, u1, u2, u3⟩ := s_Below e 6 a3
        obtain ⟨v, g, v1, v2, v3⟩ := s_Below f ((n - a) + 1) u3
        rw [cd_t hk, xg_I (by omega) (by omega), a1, Option.bind_some]
        simp only
        rw [u1, Option.bind_some]
        simp only
        rw [xg_I (by omega) (by omega), xg_I (by omega) (by omega), xg_I (by omega) (by omega), v1, Option.bind_some]
        simp only
        rw [xg_I (by omega) (by omega), s_MarkAdd _ _ _ _ _ (by omega), Option.bind_some]
        have hs := small_add (n := n) (m := ⟨1 + u, a, a + v⟩) p2 (by simp only; omega)
        cases hb : (markAdd l n ⟨1 + u, a, a + v⟩).2 with
        | true =>
          obtain ⟨q1, q2, q3⟩ := hs hb
          rw [cond_true, xg_I (by omega) (by omega)]
          exact .inl ⟨_, rfl, ⟨v3, q1, q2, by simp only; omega, by simp only; omega⟩, by simp only; omega⟩
        | false =>
          rw [cond_false, xg_I (by omega) (by omega)]
          exact .inl ⟨_, rfl, ⟨v3, p2, p3, by simp only; omega, by simp only; omega⟩, by simp only; omega⟩
      · rw [cd_f hk]
        exact .inr ⟨_, rfl, p2, p3, by simp only; omega⟩) ([], k, d.b, d.i, d.h) ⟨g3, (fun _ h => by cases h), okMarks_nil h0 h1, by simp only; omega, by simp only [List.length_nil]; omega⟩
  rw [hy]
  exact ⟨_, _, rfl, y1, y2, y3⟩
theorem s_MakeMarks (code : List UInt8) (n : Int) (hl : code.length ≤ 1048580) (h0 : 0 ≤ n) (h1 : n ≤ 200) : ∃ l, x_spec_MakeMarks code n = some l ∧ small l ∧ okMarks l n = true ∧ l.length ≤ 4 := by
  unfold x_spec_MakeMarks
  obtain ⟨c, h2, h3, h4, h5⟩ := s_New code hl
  rw [h2, Option.bind_some, xg_I (by omega) (by omega)]
  obtain ⟨l, d, g1, g2, g3, g4⟩ := s_23Draw ⟨c.b, c.i, c.h + 23⟩ n h3 h0 h1
  rw [g1]
  exact ⟨_, rfl, g2, g3, g4⟩
-- one more mark behind the others
theorem ins_last {l : List DMark} {m : DMark} : (∀ x ∈ l, x.id < m.id) → insM m l = l ++ [m] := by
  induction l with
  | nil => intro _; rfl
  | cons x r ih =>
    intro h
    have hx := h x (List.mem_cons_self ..)
    unfold insM
    rw [cd_f (by omega), ih fun y hy => h y (List.mem_cons_of_mem _ hy)]
    rfl
theorem drop_none {l : List DMark} {i : Int} (h : ∀ x ∈ l, x.id ≠ i) : dropM l i = l := by
  unfold dropM
  refine List.filter_eq_self.2 fun x hx => ?_
  simp [h x hx]
theorem marksL_last {n : Int} {m : DMark} (hm : (1 ≤ m.id ∧ m.id ≤ 1000000000) ∧ 0 ≤ m.from_ ∧ m.from_ ≤ m.to ∧ m.to ≤ n) : ∀ {l : List DMark} {p : Option Int}, marksL n l p = true → prevOk p m.id = true → (∀ x ∈ l, x.id < m.id) → marksL n (l ++ [m]) p = true
  | [], p, _, hp, _ => by
    simp only [List.nil_append, marksL, hp, Bool.and_true]
    simp [hm]
  | x :: r, p, h, hp, hx => by
    simp only [marksL, Bool.and_eq_true] at h
    simp only [List.cons_append, marksL, Bool.and_eq_true]
    exact ⟨h.1, marksL_last hm h.2 (by simp [prevOk, hx x (List.mem_cons_self ..)]) fun y hy => hx y (List.mem_cons_of_mem _ hy)⟩
theorem math_FnMarks (code : List UInt8) (_ : wfL wfY code) : x_laws_FnMarks code = some true := by
  unfold x_laws_FnMarks
  by_cases hc : (1048576 : Int) < (code.length : Int)
  · rw [cd_t hc]
  rw [cd_f hc]
  obtain ⟨t, o, b, m1, m2, m3, m4, m5, _⟩ := s_MakeOps code (by omega)
  obtain ⟨l, l1, l2, l3, l4⟩ := s_MakeMarks code t.length (by omega) (by omega) (by omega)
  have ht := okOp_to m4
  have hmv : marksMove l o = (l.map (mvM o), true) := by
    unfold marksMove
    rw [if_pos ⟨m4, by rw [m5]; exact l3⟩]
  have hk := move_keep (l := l) (n := (t.length : Int)) (by omega) l3
  have hid : ∀ x ∈ l, x.id < 99 := fun x hx => by have := l2 x hx; omega
  have hx2 : okMarks (l ++ [⟨99, 0, t.length⟩]) t.length = true := by
    have h3 := l3
    unfold okMarks at h3 ⊢
    simp only [Bool.and_eq_true, decide_eq_true_eq] at h3 ⊢
    exact ⟨⟨h3.1.1, by rw [List.length_append]; simp only [List.length_cons, List.length_nil]; omega⟩, marksL_last ⟨by simp only; omega, by simp only; omega⟩ h3.2 rfl hid⟩
  have hadd : markAdd l t.length ⟨99, 0, t.length⟩ = (l ++ [⟨99, 0, t.length⟩], true) := by
    unfold markAdd
    simp only
    rw [drop_none (fun x hx => by have := hid x hx; omega), ins_last hid, l3, hx2]
    rfl
  rw [m1, Option.bind_some]
  simp only
  rw [l1, Option.bind_some, i_MarksMove l o (by omega), Option.bind_some, i_Keeping, Option.bind_some, i_MarksMove l _ (by omega), hk, hmv, Option.bind_some]
  simp only [List.length_map, Bool.not_true, cond_false, Option.bind_some, decide_true]
  rw [i_OpTo, Option.bind_some, okOp_parts m4, if_pos rfl, i_MarksOk _ _ (by rw [List.length_map]; omega), Option.bind_some, okMarks_moved m4 l3]
  simp only [Bool.not_true, cond_false, Option.bind_some]
  rw [i_MarksOk _ _ (by omega), Option.bind_some, l3]
  simp only [Bool.not_true, cond_false, Option.bind_some]
  have lo1 : eachN (x_laws_FnMarks_f0 (l.map (mvM o), true) (l, true) l) (fun (_ : Unit) => (Sum.inl () : Sum Unit Unit)) l.length 0 () = some (Sum.inl ()) := by
    have := each_all (F := x_laws_FnMarks_f0 (l.map (mvM o), true) (l, true) l) (a := (Sum.inl () : Sum Unit Unit)) (b := Sum.inr ()) l (fun _ => true) (fun x k hk hx => by
      unfold x_laws_FnMarks_f0 x_laws_FnMarks_b0
      have e1 : (el (l.map (mvM o)) k).id = x.id := by rw [el_eq (by simpa using hk), List.getElem_map, ← el_eq hk, hx]; rfl
      simp only [List.length_map]
      rw [hx, e1, xg_of ⟨by omega, by omega⟩]
      simp only [decide_true, Bool.not_true, cond_false]
      rw [xg_of ⟨by omega, by omega⟩, xg_of ⟨by omega, by omega⟩]
      simp only [Bool.and_self, Bool.not_true, Option.bind_some, cond_false, i_MarkText, decide_true]
      rw [xg_of ⟨by omega, by omega⟩, xg_of ⟨by omega, by omega⟩]
      rfl)
    have all1 : (l.all fun _ => true) = true := List.all_eq_true.2 fun _ _ => rfl
    rw [this, all1]
    rfl
  rw [lo1, Option.bind_some]
  simp only [Sum.elim_inl]
  have hcov : ∀ i : Int, 0 ≤ i → i < t.length → (marksAt (l ++ [⟨99, 0, t.length⟩]) i).length = (marksAt l i).length + 1 := fun i i0 i1 => by
    unfold marksAt
    rw [List.filter_append]
    simp [i0, i1]
  rw [i_MarkAdd _ _ _ _ _ (by omega), hadd, Option.bind_some]
  simp only [Bool.not_true, cond_false]
  obtain ⟨c, c1, c2, c3⟩ := i_MarkedAll hx2
  obtain ⟨e, e1, e2, _⟩ := i_MarkedAll l3
  have c4 : c = t.length := c3 fun i i0 i1 => by rw [hcov i i0 i1]; omega
  have hdr : dropM (l ++ [⟨99, 0, t.length⟩]) 99 = l := by
    have : dropM (l ++ [⟨99, 0, t.length⟩]) 99 = dropM l 99 ++ dropM [⟨99, 0, t.length⟩] 99 := List.filter_append ..
    rw [this, drop_none (l := l) (fun x hx => by have := hid x hx; omega)]
    simp [dropM]
  rw [c1, Option.bind_some, c4, decide_eq_true rfl]
  simp only [Bool.not_true, cond_false, Option.bind_some]
  have hlen : (l ++ [(⟨99, 0, t.length⟩ : DMark)]).length ≤ 5 := by rw [List.length_append]; simp only [List.length_cons, List.length_nil]; omega
  rw [i_MarkDrop _ _ (by omega), Option.bind_some, hdr]
  simp only [decide_true, Bool.not_true, cond_false, Option.bind_some]
  have lo2 : eachN (x_laws_FnMarks_f1 (l ++ [⟨99, 0, t.length⟩], true) l) (fun (_ : Unit) => (Sum.inl () : Sum Unit Bool)) t.length 0 () = some (Sum.inl ()) := by
    have := each_all (F := x_laws_FnMarks_f1 (l ++ [⟨99, 0, t.length⟩], true) l) (a := (Sum.inl () : Sum Unit Bool)) (b := Sum.inr false) t (fun _ => true) (fun x k hk hx => by
      unfold x_laws_FnMarks_f1 x_laws_FnMarks_b1
      have hm : (marksAt l (k : Int)).length ≤ l.length := by unfold marksAt; rw [List.length_map]; exact List.length_filter_le ..
      simp only
      rw [i_MarksAt _ _ (by omega), Option.bind_some, i_MarksAt _ _ (by omega), Option.bind_some, xg_I (by omega) (by omega), hcov k (by omega) (by omega), decide_eq_true (by omega)]
      rfl)
    have all1 : (t.all fun _ => true) = true := List.all_eq_true.2 fun _ _ => rfl
    rw [this, all1]
    rfl
  rw [lo2, Option.bind_some]
  simp only [Sum.elim_inl]
  rw [e1, Option.bind_some, decide_eq_true e2]
end Go.Proofs.YtdfjkipdmeomdaaDoor
