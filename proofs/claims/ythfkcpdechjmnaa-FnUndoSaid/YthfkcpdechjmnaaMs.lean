/- Operations that take back, copies, and stories. No condition. -/
import Derived.Test.YthfkcpdechjmnaaMk
import Derived.Test.YthfkcpdechjmnaaG7
namespace Go.Proofs.Ythfkcpdechjmnaa

-- Taking back
def invL : List DPart → List Int → List DPart
  | [], _ => []
  | p :: o, t => if p.kind = 1 then p :: invL o (t.drop p.n.toNat) else if p.kind = 3 then ⟨2, 0, t.take p.n.toNat⟩ :: invL o (t.drop p.n.toNat) else ⟨3, (p.signs.length : Int), []⟩ :: invL o t
theorem invL_ok : ∀ {o : List DPart} {t : List Int}, (∀ p ∈ o, okPart p = true) → t.all okSign = true → fromOf o = t.length → (∀ p ∈ invL o t, okPart p = true) ∧ (invL o t).length = o.length ∧ fromOf (invL o t) = toOf o ∧ toOf (invL o t) = fromOf o
  | [], t, _, _, _ => by simp [invL, fromOf, toOf, sumI]
  | p :: o, t, h, ht, hf => by
    have ho : ∀ q ∈ o, okPart q = true := fun q hq => h q (by simp [hq])
    have hp := h p (by simp)
    have h0 := from_ok ho
    rw [from_cons] at hf
    have hd : ∀ k, (t.drop k).all okSign = true := fun k => List.all_eq_true.2 fun x hx => List.all_eq_true.1 ht x (List.mem_of_mem_drop hx)
    have htk : ∀ k, (t.take k).all okSign = true := fun k => List.all_eq_true.2 fun x hx => List.all_eq_true.1 ht x (List.mem_of_mem_take hx)
    simp only [to_cons, from_cons]
    unfold pFrom pKeep pDrop at hf
    unfold invL pFrom pTo pKeep pDrop pPut
    rcases okPart_cases hp with ⟨k1, k2, k3, k4⟩ | ⟨k1, k2, k3, k4⟩ | ⟨k1, k2, k3, k4⟩
    · simp [k1] at hf
      obtain ⟨i1, i2, i3, i4⟩ := invL_ok (o := o) (t := t.drop p.n.toNat) ho (hd _) (by simp; omega)
      rw [if_pos k1]
      refine ⟨fun q hq => ?_, by simp [i2], ?_, ?_⟩
      · rcases List.mem_cons.1 hq with rfl | hq
        · exact hp
        · exact i1 q hq
      · rw [from_cons, i3]; simp [k1, pFrom, pKeep, pDrop]
      · rw [to_cons, i4]; simp [k1, pTo, pKeep, pPut]
    · simp [k1] at hf
      obtain ⟨i1, i2, i3, i4⟩ := invL_ok (o := o) (t := t) ho ht hf
      rw [if_neg (by omega), if_neg (by omega)]
      refine ⟨fun q hq => ?_, by simp [i2], ?_, ?_⟩
      · rcases List.mem_cons.1 hq with rfl | hq
        · unfold okPart; simp; omega
        · exact i1 q hq
      · rw [from_cons, i3]; simp [k1, pFrom, pKeep, pDrop]
      · rw [to_cons, i4]; simp [k1, pTo, pKeep, pPut]
    · simp [k1] at hf
      obtain ⟨i1, i2, i3, i4⟩ := invL_ok (o := o) (t := t.drop p.n.toNat) ho (hd _) (by simp; omega)
      rw [if_neg (by omega), if_pos k1]
      refine ⟨fun q hq => ?_, by simp [i2], ?_, ?_⟩
      · rcases List.mem_cons.1 hq with rfl | hq
        · unfold okPart; rw [if_neg (by simp), if_pos rfl, htk]; simp; omega
        · exact i1 q hq
      · rw [from_cons, i3]; simp [k1, pFrom, pKeep, pDrop]
      · rw [to_cons, i4]; simp [k1, pTo, pKeep, pPut]; omega
def inv (o : List DPart) (t : List Int) : List DPart × Bool := if fits o t then (nrm (invL (nrm o) t), true) else ([], false)
theorem okText_signs {t : List Int} (h : okText t = true) : t.all okSign = true := by
  unfold okText at h
  simp only [Bool.and_eq_true] at h
  exact h.2
theorem inv_ok {o : List DPart} {t : List Int} (h : fits o t = true) : okOp (invL (nrm o) t) = true ∧ fromOf (invL (nrm o) t) = toOf o ∧ toOf (invL (nrm o) t) = fromOf o := by
  obtain ⟨h1, h2, h3⟩ := fits_get h
  have hn := okOp_nrm h1
  have hk := okOp_kinds h1
  obtain ⟨i1, i2, i3, i4⟩ := invL_ok (o := nrm o) (t := t) (fun p hp => okParts_mem (okOp_parts hn) hp) (okText_signs h2) (by rw [from_nrm hk, h3])
  rw [to_nrm hk] at i3; rw [from_nrm hk] at i4
  refine ⟨?_, i3, i4⟩
  have e1 := okOp_from h1; have e2 := okOp_to h1; have e3 := okParts_len (okOp_parts hn)
  have e4 : (invL (nrm o) t).all okPart = true := List.all_eq_true.2 i1
  unfold okOp okParts
  rw [e4, i3, i4]
  simp; omega
theorem i_inv_loop {o : List DPart} {t : List Int} (ho : ∀ p ∈ o, okPart p = true) (hl : o.length ≤ 600) (ht : t.length ≤ 200) (hf : fromOf o = t.length) :
    eachN (x_impl_Invert_f0 t) (fun (s : List DPart × Int × List DPart) => (s.1 : List DPart)) o.length 0 ([], 0, o) = some (invL o t) := by
  have h := each_run (F := x_impl_Invert_f0 t) (e := fun (s : List DPart × Int × List DPart) => s.1) o (fun r k s => (∀ p ∈ r, okPart p = true) ∧ 0 ≤ s.2.1 ∧ s.2.1 + fromOf r = t.length ∧ s.1.length ≤ k ∧ s.2.2 = o) (fun r _ s => s.1 ++ invL r (t.drop s.2.1.toNat)) (fun s _ => by simp [invL]) (fun x r k s hk hx hP => by
    obtain ⟨out, a, l⟩ := s
    obtain ⟨h1, h2, h3, h4, h5⟩ := hP
    simp only at h2 h3 h4 h5 ⊢
    subst h5
    rw [from_cons] at h3
    have hr := from_ok (o := r) (fun p hp => h1 p (by simp [hp]))
    have hx1 := h1 x (by simp)
    have hr1 : ∀ p ∈ r, okPart p = true := fun p hp => h1 p (by simp [hp])
    unfold pFrom pKeep pDrop at h3
    unfold x_impl_Invert_f0 x_impl_Invert_b0
    simp only
    rw [hx, xg_of ⟨by omega, by omega⟩]
    refine .inl ?_
    rcases okPart_cases hx1 with ⟨k1, k2, k3, k4⟩ | ⟨k1, k2, k3, k4⟩ | ⟨k1, k2, k3, k4⟩
    · simp [k1] at h3
      rw [cd_t k1, xg_of (by omega), xg_I (by omega) (by omega)]
      refine ⟨_, rfl, ⟨hr1, by simp only; omega, by simp only; omega, by simp; omega, rfl⟩, ?_⟩
      simp [invL, k1, drop_toNat h2 k2]
    · simp [k1] at h3
      rw [cd_f (by omega), cd_f (by omega), xg_of (by omega)]
      refine ⟨_, rfl, ⟨hr1, by simp only; omega, by simp only; omega, by simp; omega, rfl⟩, ?_⟩
      simp [invL, k1]
    · simp [k1] at h3
      rw [cd_f (by omega), cd_t k1, xg_I (by omega) (by omega), xg_of ⟨by omega, by omega, by omega⟩, take_toNat h2 k2, xg_of (by omega), xg_I (by omega) (by omega)]
      refine ⟨_, rfl, ⟨hr1, by simp only; omega, by simp only; omega, by simp; omega, rfl⟩, ?_⟩
      simp [invL, k1, drop_toNat h2 k2]) ([], 0, o) ⟨ho, by simp, by simp [hf], by simp, rfl⟩
  simpa using h
theorem i_Invert (o : List DPart) (t : List Int) : x_impl_Invert o t = some (inv o t) := by
  unfold x_impl_Invert inv
  rw [i_Apply, Option.bind_some]
  cases h : fits o t with
  | false => rfl
  | true =>
    obtain ⟨h1, h2, h3⟩ := fits_get h
    have hn := okOp_nrm h1
    simp only [if_true, Bool.not_true, cond_false]
    rw [i_OpNorm, h1, Option.bind_some]
    simp only [if_true]
    rw [i_inv_loop (fun p hp => okParts_mem (okOp_parts hn) hp) (okParts_len (okOp_parts hn)) (okText_len h2) (by rw [from_nrm (okOp_kinds h1), h3]), Option.bind_some, i_OpNorm, (inv_ok h).1]
    rfl
theorem s_inv_loop {o : List DPart} {t : List Int} (ho : ∀ p ∈ o, okPart p = true) (hl : o.length ≤ 600) (ht : t.length ≤ 200) (hf : fromOf o = t.length) :
    eachN (x_spec_Invert_f0 t o) (fun (s : Int × List DPart × List Int × Int) => ((s.2.1, s.2.2.1, s.2.2.2) : List DPart × List Int × Int)) o.length 0 (0, [], [], 0) = some (((invL o t).foldl bPart bNil).list, ((invL o t).foldl bPart bNil).put, ((invL o t).foldl bPart bNil).drop) := by
  have h := each_run (F := x_spec_Invert_f0 t o) (e := fun (s : Int × List DPart × List Int × Int) => ((s.2.1, s.2.2.1, s.2.2.2) : List DPart × List Int × Int)) o (fun r k s => (∀ p ∈ r, okPart p = true) ∧ 0 ≤ s.1 ∧ s.1 + fromOf r = t.length ∧ k + r.length = o.length ∧ Binv ⟨s.2.1, s.2.2.1, s.2.2.2⟩ k) (fun r _ s => (((invL r (t.drop s.1.toNat)).foldl bPart ⟨s.2.1, s.2.2.1, s.2.2.2⟩).list, ((invL r (t.drop s.1.toNat)).foldl bPart ⟨s.2.1, s.2.2.1, s.2.2.2⟩).put, ((invL r (t.drop s.1.toNat)).foldl bPart ⟨s.2.1, s.2.2.1, s.2.2.2⟩).drop)) (fun s _ => rfl) (fun x r k s hk hx hP => by
    obtain ⟨a, L, p, d⟩ := s
    obtain ⟨h1, h2, h3, h4, h5⟩ := hP
    simp only [List.length_cons] at h2 h3 h4 h5 ⊢
    rw [from_cons] at h3
    have hr := from_ok (o := r) (fun p hp => h1 p (by simp [hp]))
    have hx1 := h1 x (by simp)
    have hx2 := okPart_len hx1
    have hr1 : ∀ p ∈ r, okPart p = true := fun p hp => h1 p (by simp [hp])
    unfold pFrom pKeep pDrop at h3
    unfold x_spec_Invert_f0 x_spec_Invert_b0
    simp only
    rw [hx]
    refine .inl ?_
    rcases okPart_cases hx1 with ⟨k1, k2, k3, k4⟩ | ⟨k1, k2, k3, k4⟩ | ⟨k1, k2, k3, k4⟩
    · simp [k1] at h3
      rw [cd_t k1, s_Keep h5 (by omega) k2 (by omega), Option.bind_some, xg_I (by omega) (by omega)]
      refine ⟨_, rfl, ⟨hr1, by simp only; omega, by simp only; omega, by omega, binv_keep h5 (by omega)⟩, ?_⟩
      simp only [invL, k1, if_true, drop_toNat h2 k2, List.foldl_cons]
      rw [show bPart (⟨L, p, d⟩ : DL02B) x = bKeep ⟨L, p, d⟩ x.n by unfold bPart; rw [if_neg (by omega), if_neg (by omega)]]
    · simp [k1] at h3
      rw [cd_f (by omega), cd_t k1, s_Drop h5 (by omega) (by omega) (by omega), Option.bind_some]
      refine ⟨_, rfl, ⟨hr1, by simp only; omega, by simp only; omega, by omega, binv_drop h5 (by omega) (by omega)⟩, ?_⟩
      simp only [invL, k1]
      simp [bPart]
    · simp [k1] at h3
      rw [cd_f (by omega), cd_f (by omega), xg_I (by omega) (by omega), xg_of ⟨by omega, by omega, by omega⟩, take_toNat h2 k2, s_Put h5 (by omega) (by simp; omega), Option.bind_some, xg_I (by omega) (by omega)]
      refine ⟨_, rfl, ⟨hr1, by simp only; omega, by simp only; omega, by omega, binv_put h5 (by simp; omega)⟩, ?_⟩
      simp only [invL, k1, drop_toNat h2 k2]
      simp [bPart]) (0, [], [], 0) ⟨ho, by simp, by simp [hf], by simp, binv_nil⟩
  simpa [bNil] using h
theorem s_Invert (o : List DPart) (t : List Int) : x_spec_Invert o t = some (inv o t) := by
  unfold x_spec_Invert inv
  rw [s_Fits, Option.bind_some]
  cases h : fits o t with
  | false => rfl
  | true =>
    obtain ⟨h1, h2, h3⟩ := fits_get h
    have hn := okOp_nrm h1
    obtain ⟨i1, _⟩ := inv_ok h
    have i2 := okParts_len (okOp_parts i1)
    simp only [if_true, Bool.not_true, cond_false]
    rw [s_OpNorm, h1, Option.bind_some]
    simp only [if_true]
    rw [s_inv_loop (fun p hp => okParts_mem (okOp_parts hn) hp) (okParts_len (okOp_parts hn)) (okText_len h2) (by rw [from_nrm (okOp_kinds h1), h3]), Option.bind_some]
    have := s_Done (binv_fold (okParts_fair (okOp_parts i1)) binv_nil) (by omega)
    simp only
    rw [this]; rfl

-- Copies
theorem copy_loop {T : Type} [Inhabited T] {f : Nat → List T → Option (Lr (List T) (List T))} (l : List T) (_hl : l.length ≤ 1099511627776) (hf : ∀ k s, k < l.length → s.length ≤ k → f k s = some (.go (s ++ [el l k]))) : eachN f (fun (s : List T) => (s : List T)) l.length 0 [] = some l := by
  have h := each_run (F := f) (e := fun (s : List T) => s) l (fun r k s => s.length ≤ k) (fun r _ s => s ++ r) (fun s _ => by simp) (fun x r k s hk hx hP => .inl ⟨_, hf k s hk hP, by simp; omega, by simp [hx]⟩) [] (by simp)
  simpa using h
theorem i_copyOp {o : List DPart} (h : smL smDPart o) : x_impl_copyOp o = some o := by
  unfold x_impl_copyOp
  rw [copy_loop o h.1 (fun k s hk hs => by
    have hm := h.2 _ (el_mem hk)
    have h1 := h.1
    unfold x_impl_copyOp_f0 x_impl_copyOp_b0
    rw [i_copyInts hm.2.2.1, Option.bind_some, xg_of (by omega)])]
  rfl
theorem s_copyOp {o : List DPart} (h : smL smDPart o) : x_spec_l02Copy o = some o := by
  unfold x_spec_l02Copy
  rw [copy_loop o h.1 (fun k s hk hs => by
    have hm := h.2 _ (el_mem hk)
    have h1 := h.1
    have h2 := hm.2.2.1
    unfold x_spec_l02Copy_f0 x_spec_l02Copy_b0
    rw [xg_of (by omega), xg_of (by simp; omega)]; rfl)]
  rfl
theorem i_copyOps {l : List (List DPart)} (h : smL (smL smDPart) l) : x_impl_copyOps l = some l := by
  unfold x_impl_copyOps
  rw [copy_loop l h.1 (fun k s hk hs => by
    have h1 := h.1
    unfold x_impl_copyOps_f0 x_impl_copyOps_b0
    rw [i_copyOp (h.2 _ (el_mem hk)), Option.bind_some, xg_of (by omega)])]
  rfl
theorem s_copyOps {l : List (List DPart)} (h : smL (smL smDPart) l) : x_spec_l24List l = some l := by
  unfold x_spec_l24List
  rw [copy_loop l h.1 (fun k s hk hs => by
    have h1 := h.1
    unfold x_spec_l24List_f0 x_spec_l24List_b0
    rw [s_copyOp (h.2 _ (el_mem hk)), Option.bind_some, xg_of (by omega)])]
  rfl
def push (l : List (List DPart)) (o : List DPart) : List (List DPart) := if 8 < (l ++ [o]).length then (l ++ [o]).drop 1 else l ++ [o]
theorem i_push {l : List (List DPart)} (h : smL (smL smDPart) l) (hl : l.length < 1099511627776) (o : List DPart) : x_impl_pushed l o = some (push l o) := by
  unfold x_impl_pushed push
  rw [i_copyOps h, Option.bind_some, xg_of hl]
  by_cases hc : 8 < (l ++ [o]).length
  · rw [cd_t (by omega), if_pos hc, xg_of ⟨by omega, by omega⟩, List.take_length]
  · rw [cd_f (by omega), if_neg hc]
theorem v2_push : x_impl_pushed_v2 = x_impl_pushed := rfl
theorem s_push {l : List (List DPart)} (h : smL (smL smDPart) l) (hl : l.length < 1099511627776) {o : List DPart} (ho : smL smDPart o) : x_spec_l24Add l o = some (push l o) := by
  unfold x_spec_l24Add push
  rw [s_copyOps h, Option.bind_some, s_copyOp ho, Option.bind_some, xg_of hl]
  by_cases hc : 8 < (l ++ [o]).length
  · rw [cd_t (by omega), if_pos hc, xg_of ⟨by omega, by omega⟩, List.take_length]
  · rw [cd_f (by omega), if_neg hc]

-- Stories
def isNorm (o : List DPart) : Bool := okOp o && decide (o = nrm o)
theorem isNorm_ok {o : List DPart} (h : isNorm o = true) : okOp o = true ∧ nrm o = o := by
  unfold isNorm at h
  simp only [Bool.and_eq_true, decide_eq_true_eq] at h
  exact ⟨h.1, h.2.symm⟩
def stk : List (List DPart) → Int → Bool
  | [], _ => true
  | o :: r, n => (isNorm o && decide (fromOf o = n)) && stk r (toOf o)
def okStack (l : List (List DPart)) (n : Int) : Bool := decide (l.length ≤ 8) && stk l.reverse n
def okStory (p : DStory) : Bool := (decide (0 ≤ p.n ∧ p.n ≤ 200) && okStack p.undo p.n) && okStack p.redo p.n
theorem take_rev {T : Type} [Inhabited T] {l : List T} {i : Nat} (h : i < l.length) : (l.take (i + 1)).reverse = el l i :: (l.take i).reverse := by
  rw [List.take_add_one, List.getElem?_eq_getElem h, ← el_eq h]; simp
theorem i_stack_loop (l : List (List DPart)) (n : Int) (hl : l.length ≤ 1099511627776) : iter (x_impl_stackOk_f0 l) (n, (l.length : Int) - 1) = some (bif stk l.reverse n then Sum.inl () else Sum.inr ()) := by
  have h := iter_go (f := x_impl_stackOk_f0 l) (fun s => -1 ≤ s.2 ∧ s.2 < l.length) (fun s => (s.2 + 1).toNat) (fun s => bif stk (l.take (s.2 + 1).toNat).reverse s.1 then Sum.inl () else Sum.inr ()) (fun s hP => by
    obtain ⟨m, i⟩ := s
    obtain ⟨h1, h2⟩ := hP
    simp only at h1 h2 ⊢
    unfold x_impl_stackOk_f0 x_impl_stackOk_b0
    simp only
    by_cases h0 : 0 ≤ i
    · obtain ⟨i, rfl⟩ := Int.eq_ofNat_of_zero_le h0
      have hk : i < l.length := by omega
      rw [cd_t h0, xg_of ⟨by omega, by omega⟩, Int.toNat_natCast, i_IsNorm, Option.bind_some, show ((i : Int) + 1).toNat = i + 1 by omega, take_rev hk, stk]
      have e : (okOp (el l i) && decide (el l i = nrm (el l i))) = isNorm (el l i) := rfl
      rw [e]
      cases hn : isNorm (el l i) with
      | false => exact .inr rfl
      | true =>
        have ho := (isNorm_ok hn).1
        rw [Bool.not_true, cd_F, xg_of ⟨by omega, by omega⟩, i_OpFrom, okOp_parts ho, if_pos rfl, Option.bind_some, Option.bind_some]
        by_cases hf : fromOf (el l i) = m
        · rw [decide_eq_true hf, Bool.not_true, cd_F, xg_of ⟨by omega, by omega⟩, i_OpTo, okOp_parts ho, if_pos rfl, Option.bind_some, xg_I (by omega) (by omega)]
          refine .inl ⟨_, rfl, ⟨by simp only; omega, by simp only; omega⟩, by simp only; omega, ?_⟩
          simp only
          rw [show ((i : Int) - 1 + 1).toNat = i by omega]; rfl
        · rw [decide_eq_false hf]; exact .inr rfl
    · rw [cd_f h0, show (i + 1).toNat = 0 by omega]; exact .inr rfl) (n, (l.length : Int) - 1) ⟨by simp only; omega, by simp only; omega⟩
  simpa using h
theorem i_stackOk (l : List (List DPart)) (n : Int) (hl : l.length ≤ 1099511627776) : x_impl_stackOk l n = some (okStack l n) := by
  unfold x_impl_stackOk okStack
  by_cases h : l.length ≤ 8
  · rw [cd_f (by omega), xg_I (by omega) (by omega), i_stack_loop l n hl, decide_eq_true h]
    cases stk l.reverse n <;> rfl
  · rw [cd_t (by omega), decide_eq_false h]; rfl
theorem s_stack_loop (l : List (List DPart)) (n : Int) (hl : l.length ≤ 1099511627776) : iter (x_spec_l24Side_f0 l) (n, (l.length : Int) - 1) = some (bif stk l.reverse n then Sum.inl () else Sum.inr ()) := by
  have h := iter_go (f := x_spec_l24Side_f0 l) (fun s => -1 ≤ s.2 ∧ s.2 < l.length) (fun s => (s.2 + 1).toNat) (fun s => bif stk (l.take (s.2 + 1).toNat).reverse s.1 then Sum.inl () else Sum.inr ()) (fun s hP => by
    obtain ⟨m, i⟩ := s
    obtain ⟨h1, h2⟩ := hP
    simp only at h1 h2 ⊢
    unfold x_spec_l24Side_f0 x_spec_l24Side_b0
    simp only
    by_cases h0 : 0 ≤ i
    · obtain ⟨i, rfl⟩ := Int.eq_ofNat_of_zero_le h0
      have hk : i < l.length := by omega
      rw [cd_t h0, xg_of ⟨by omega, by omega⟩, Int.toNat_natCast, s_IsNorm, Option.bind_some, show ((i : Int) + 1).toNat = i + 1 by omega, take_rev hk, stk]
      have e : (okOp (el l i) && decide (el l i = nrm (el l i))) = isNorm (el l i) := rfl
      rw [e]
      cases hn : isNorm (el l i) with
      | false => exact .inr rfl
      | true =>
        have ho := (isNorm_ok hn).1
        rw [Bool.not_true, cd_F, xg_of ⟨by omega, by omega⟩, s_OpFrom, okOp_parts ho, if_pos rfl, Option.bind_some, Option.bind_some]
        by_cases hf : fromOf (el l i) = m
        · rw [decide_eq_true hf, Bool.not_true, cd_F, xg_of ⟨by omega, by omega⟩, s_OpTo, okOp_parts ho, if_pos rfl, Option.bind_some, xg_I (by omega) (by omega)]
          refine .inl ⟨_, rfl, ⟨by simp only; omega, by simp only; omega⟩, by simp only; omega, ?_⟩
          simp only
          rw [show ((i : Int) - 1 + 1).toNat = i by omega]; rfl
        · rw [decide_eq_false hf]; exact .inr rfl
    · rw [cd_f h0, show (i + 1).toNat = 0 by omega]; exact .inr rfl) (n, (l.length : Int) - 1) ⟨by simp only; omega, by simp only; omega⟩
  simpa using h
theorem s_stackOk (l : List (List DPart)) (n : Int) (hl : l.length ≤ 1099511627776) : x_spec_l24Side l n = some (okStack l n) := by
  unfold x_spec_l24Side okStack
  rw [xg_I (by omega) (by omega), s_stack_loop l n hl]
  have e : decide ((l.length : Int) ≤ 8) = decide (l.length ≤ 8) := decide_eq_decide.2 (by omega)
  cases stk l.reverse n <;> simp [e]
theorem i_PastOk (p : DStory) (h : smDStory p) : x_impl_PastOk p = some (okStory p) := by
  unfold x_impl_PastOk okStory
  simp only [i_within, i_stackOk _ _ h.2.1.1, i_stackOk _ _ h.2.2.1, Option.bind_some, cs_, ca_]
theorem s_PastOk (p : DStory) (h : smDStory p) : x_spec_PastOk p = some (okStory p) := by
  unfold x_spec_PastOk okStory
  simp only [s_In, s_stackOk _ _ h.2.1.1, s_stackOk _ _ h.2.2.1, Option.bind_some, cs_, ca_]
theorem okStory_get {p : DStory} (h : okStory p = true) : (0 ≤ p.n ∧ p.n ≤ 200) ∧ p.undo.length ≤ 8 ∧ p.redo.length ≤ 8 ∧ stk p.undo.reverse p.n = true ∧ stk p.redo.reverse p.n = true := by
  unfold okStory okStack at h
  simp only [Bool.and_eq_true, decide_eq_true_eq] at h
  exact ⟨h.1.1, h.1.2.1, h.2.1, h.1.2.2, h.2.2⟩
def pastDo (p : DStory) (o : List DPart) (t : List Int) : DStory × Bool := if (okStory p = true ∧ (t.length : Int) = p.n) ∧ fits o t = true then (⟨toOf o, push p.undo (inv o t).1, []⟩, true) else (⟨0, [], []⟩, false)
theorem sm_op {o : List DPart} (h : okOp o = true) : smL smDPart o := by
  have h1 := okParts_len (okOp_parts h)
  refine ⟨by omega, fun q hq => ?_⟩
  have h2 := okPart_len (okParts_mem (okOp_parts h) hq)
  exact ⟨trivial, trivial, by omega, fun _ _ => trivial⟩
theorem sm_inv {o : List DPart} {t : List Int} (h : fits o t = true) : okOp (inv o t).1 = true := by
  unfold inv; rw [if_pos h]; exact okOp_nrm (inv_ok h).1
theorem i_PastDo (p : DStory) (o : List DPart) (t : List Int) (h : smDStory p) : x_impl_PastDo p o t = some (pastDo p o t) := by
  unfold x_impl_PastDo pastDo
  simp only [v2_push, i_Invert, i_PastOk p h, Option.bind_some, cs_, co_]
  by_cases hc : (okStory p = true ∧ (t.length : Int) = p.n) ∧ fits o t = true
  · have h1 := okStory_get hc.1.1
    have e : (inv o t).2 = true := by unfold inv; rw [if_pos hc.2]
    rw [if_pos hc, hc.1.1, decide_eq_true hc.1.2, e, Bool.not_true, Bool.false_or, Bool.false_or, cd_F, i_OpTo, okOp_parts (fits_get hc.2).1, if_pos rfl, Option.bind_some, i_push h.2.1 (by omega)]
    rfl
  · have e : (inv o t).2 = fits o t := by unfold inv; cases fits o t <;> rfl
    have : ((!okStory p || !decide ((t.length : Int) = p.n)) || !(inv o t).2) = true := by
      rw [e]
      cases h1 : okStory p
      · rfl
      · cases h2 : fits o t
        · simp
        · have : ¬ (t.length : Int) = p.n := fun h3 => hc ⟨⟨h1, h3⟩, h2⟩
          simp [this]
    rw [if_neg hc, this]; rfl
theorem s_PastDo (p : DStory) (o : List DPart) (t : List Int) (h : smDStory p) : x_spec_PastDo p o t = some (pastDo p o t) := by
  unfold x_spec_PastDo pastDo
  simp only [s_Invert, s_PastOk p h, Option.bind_some, cs_, co_]
  by_cases hc : (okStory p = true ∧ (t.length : Int) = p.n) ∧ fits o t = true
  · have h1 := okStory_get hc.1.1
    have e : (inv o t).2 = true := by unfold inv; rw [if_pos hc.2]
    rw [if_pos hc, hc.1.1, decide_eq_true hc.1.2, e, Bool.not_true, Bool.false_or, Bool.false_or, cd_F, s_OpTo, okOp_parts (fits_get hc.2).1, if_pos rfl, Option.bind_some, s_push h.2.1 (by omega) (sm_op (sm_inv hc.2))]
    rfl
  · have e : (inv o t).2 = fits o t := by unfold inv; cases fits o t <;> rfl
    have : ((!okStory p || !decide ((t.length : Int) = p.n)) || !(inv o t).2) = true := by
      rw [e]
      cases h1 : okStory p
      · rfl
      · cases h2 : fits o t
        · simp
        · have : ¬ (t.length : Int) = p.n := fun h3 => hc ⟨⟨h1, h3⟩, h2⟩
          simp [this]
    rw [if_neg hc, this]; rfl
def lastOp (l : List (List DPart)) : List DPart := el l (l.length - 1)
def pastUndo (p : DStory) (t : List Int) : DStory × List DPart × Bool := if ((okStory p = true ∧ okText t = true) ∧ (t.length : Int) = p.n) ∧ 0 < p.undo.length then (⟨toOf (lastOp p.undo), p.undo.take (p.undo.length - 1), push p.redo (inv (lastOp p.undo) t).1⟩, lastOp p.undo, true) else (⟨0, [], []⟩, [], false)
def swapS (p : DStory) : DStory := ⟨p.n, p.redo, p.undo⟩
def pastRedo (p : DStory) (t : List Int) : DStory × List DPart × Bool := (swapS (pastUndo (swapS p) t).1, (pastUndo (swapS p) t).2.1, (pastUndo (swapS p) t).2.2)
theorem stk_last {l : List (List DPart)} {n : Int} (h : stk l.reverse n = true) (hl : 0 < l.length) : isNorm (lastOp l) = true ∧ fromOf (lastOp l) = n := by
  have e := take_rev (l := l) (i := l.length - 1) (by omega)
  rw [show l.length - 1 + 1 = l.length by omega, List.take_length] at e
  rw [e, stk] at h
  simp only [Bool.and_eq_true, decide_eq_true_eq] at h
  exact h.1
theorem sm_take {l : List (List DPart)} (h : smL (smL smDPart) l) (k : Nat) : smL (smL smDPart) (l.take k) := ⟨by have := h.1; rw [List.length_take]; omega, fun x hx => h.2 x (List.mem_of_mem_take hx)⟩
theorem i_revert {l m : List (List DPart)} (t : List Int) (h : smL (smL smDPart) l) (h2 : smL (smL smDPart) m) (hm : m.length < 1099511627776) : x_impl_revert l m t = some (if 0 < l.length then (l.take (l.length - 1), push m (inv (lastOp l) t).1, lastOp l, (inv (lastOp l) t).2) else ([], [], [], false)) := by
  unfold x_impl_revert
  rw [v2_push]
  have hl := h.1
  by_cases h0 : 0 < l.length
  · have e : ((l.length : Int) - 1).toNat = l.length - 1 := by omega
    rw [cd_f (by omega), if_pos h0, xg_I (by omega) (by omega), xg_of ⟨by omega, by omega⟩, e, i_copyOp (h.2 _ (el_mem (by omega))), Option.bind_some, i_Invert, Option.bind_some, xg_I (by omega) (by omega), xg_of ⟨by omega, by omega⟩, List.drop_zero, i_copyOps (sm_take h _), Option.bind_some, i_push h2 hm]
    rfl
  · rw [cd_t (by omega), if_neg h0]
theorem past_same {p : DStory} {t : List Int} (hu : 0 < p.undo.length) : (((inv (lastOp p.undo) t).2 = true ∧ okStory p = true) ∧ (t.length : Int) = p.n) ↔ (((okStory p = true ∧ okText t = true) ∧ (t.length : Int) = p.n) ∧ 0 < p.undo.length) := by
  have e : (inv (lastOp p.undo) t).2 = fits (lastOp p.undo) t := by unfold inv; cases fits (lastOp p.undo) t <;> rfl
  rw [e]
  constructor
  · rintro ⟨⟨h1, h2⟩, h3⟩
    exact ⟨⟨⟨h2, (fits_get h1).2.1⟩, h3⟩, hu⟩
  · rintro ⟨⟨⟨h1, h2⟩, h3⟩, _⟩
    obtain ⟨h4, h5⟩ := stk_last (okStory_get h1).2.2.2.1 hu
    refine ⟨⟨?_, h1⟩, h3⟩
    unfold fits
    rw [(isNorm_ok h4).1, h2, h5, h3]; simp
theorem i_PastUndo (p : DStory) (t : List Int) (h : smDStory p) (hr : p.redo.length < 1099511627776) : x_impl_PastUndo p t = some (pastUndo p t) := by
  unfold x_impl_PastUndo pastUndo
  rw [i_revert t h.2.1 h.2.2 hr, Option.bind_some]
  by_cases hu : 0 < p.undo.length
  · rw [if_pos hu]
    simp only [i_PastOk p h, Option.bind_some, cs_, co_]
    have hs := past_same (p := p) (t := t) hu
    by_cases hc : ((okStory p = true ∧ okText t = true) ∧ (t.length : Int) = p.n) ∧ 0 < p.undo.length
    · obtain ⟨⟨g1, g2⟩, g3⟩ := hs.2 hc
      have h4 := isNorm_ok (stk_last (okStory_get g2).2.2.2.1 hu).1
      rw [if_pos hc, g1, g2, decide_eq_true g3, Bool.not_true, Bool.false_or, Bool.false_or, cd_F, i_OpTo, okOp_parts h4.1, if_pos rfl]
      rfl
    · have : ((!(inv (lastOp p.undo) t).2 || !okStory p) || !decide ((t.length : Int) = p.n)) = true := by
        cases g1 : (inv (lastOp p.undo) t).2
        · rfl
        · cases g2 : okStory p
          · rfl
          · have : ¬ (t.length : Int) = p.n := fun g3 => hc (hs.1 ⟨⟨g1, g2⟩, g3⟩)
            simp [this]
      rw [if_neg hc, this]; rfl
  · rw [if_neg hu, if_neg (fun k => hu k.2)]; rfl
theorem i_PastRedo (p : DStory) (t : List Int) (h : smDStory p) (hr : p.undo.length < 1099511627776) : x_impl_PastRedo p t = some (pastRedo p t) := by
  have hs : smDStory ⟨p.n, p.redo, p.undo⟩ := ⟨h.1, h.2.2, h.2.1⟩
  have h1 := i_PastUndo ⟨p.n, p.redo, p.undo⟩ t hs hr
  have e1 : okStory ⟨p.n, p.redo, p.undo⟩ = okStory p := by
    unfold okStory
    simp only [Bool.and_assoc]
    congr 1
    exact Bool.and_comm _ _
  unfold x_impl_PastUndo at h1
  unfold x_impl_PastRedo pastRedo
  have e2 : swapS p = ⟨p.n, p.redo, p.undo⟩ := rfl
  rw [i_PastOk _ hs, e1] at h1
  rw [i_PastOk p h, e2]
  dsimp only at h1 ⊢
  rw [i_revert t h.2.2 h.2.1 hr, Option.bind_some] at h1 ⊢
  generalize (if 0 < p.redo.length then (p.redo.take (p.redo.length - 1), push p.undo (inv (lastOp p.redo) t).1, lastOp p.redo, (inv (lastOp p.redo) t).2) else ([], [], [], false)) = r at *
  obtain ⟨a, b, c, d⟩ := r
  simp only [Option.bind_some, cs_, co_] at h1 ⊢
  cases hd : ((!d || !okStory p) || !decide ((t.length : Int) = p.n)) with
  | true =>
    rw [hd] at h1
    have := Option.some.inj h1
    rw [← this]; rfl
  | false =>
    rw [hd] at h1
    simp only [cond_false] at h1 ⊢
    obtain ⟨q, h2, h3⟩ := bind_some' h1
    rw [h2, Option.bind_some]
    have := Option.some.inj h3
    rw [← this]; rfl
theorem s_PastUndo (p : DStory) (t : List Int) (h : smDStory p) (hr : p.redo.length < 1099511627776) : x_spec_PastUndo p t = some (pastUndo p t) := by
  unfold x_spec_PastUndo pastUndo
  have hl := h.2.1.1
  rw [xg_I (by omega) (by omega)]
  simp only [s_PastOk p h, s_TextOk, Option.bind_some, cs_, co_]
  by_cases hc : ((okStory p = true ∧ okText t = true) ∧ (t.length : Int) = p.n) ∧ 0 < p.undo.length
  · have hu := hc.2
    have h4 := stk_last (okStory_get hc.1.1.1).2.2.2.1 hu
    have h5 := isNorm_ok h4.1
    have hf : fits (lastOp p.undo) t = true := by unfold fits; rw [h5.1, hc.1.1.2, h4.2, hc.1.2]; simp
    have e : ((p.undo.length : Int) - 1).toNat = p.undo.length - 1 := by omega
    have hlast : el p.undo (p.undo.length - 1) = lastOp p.undo := rfl
    rw [if_pos hc, hc.1.1.1, hc.1.1.2, decide_eq_true hc.1.2, decide_eq_false (p := (p.undo.length : Int) - 1 < 0) (by omega)]
    simp only [Bool.not_true, Bool.or_false, cond_false]
    rw [xg_of ⟨by omega, by omega⟩, e, hlast, s_copyOp (sm_op h5.1), Option.bind_some, s_Invert, Option.bind_some, s_OpTo, okOp_parts h5.1, if_pos rfl, Option.bind_some, xg_of ⟨by omega, by omega⟩, List.drop_zero, s_copyOps (sm_take h.2.1 _), Option.bind_some, s_push h.2.2 hr (sm_op (sm_inv hf))]
    rfl
  · rw [if_neg hc]
    have : (((!okStory p || !okText t) || !decide ((t.length : Int) = p.n)) || decide ((p.undo.length : Int) - 1 < 0)) = true := by
      cases g1 : okStory p
      · rfl
      · cases g2 : okText t
        · rfl
        · by_cases g3 : (t.length : Int) = p.n
          · have : ¬ 0 < p.undo.length := fun g4 => hc ⟨⟨⟨g1, g2⟩, g3⟩, g4⟩
            rw [decide_eq_true (p := (p.undo.length : Int) - 1 < 0) (by omega)]; simp
          · simp [g3]
    rw [this]; rfl
theorem s_PastRedo (p : DStory) (t : List Int) (h : smDStory p) (hr : p.undo.length < 1099511627776) : x_spec_PastRedo p t = some (pastRedo p t) := by
  unfold x_spec_PastRedo pastRedo
  have := s_PastUndo (swapS p) t ⟨h.1, h.2.2, h.2.1⟩ hr
  unfold swapS at this ⊢
  rw [this]; rfl

-- Sizes
theorem lenL_app {T : Type} (c : T → Nat) (a b : List T) : lenL c (a ++ b) = lenL c a + lenL c b := by unfold lenL; rw [sumL_app, List.length_append]; omega
theorem sumL_drop {T : Type} (c : T → Nat) : ∀ (l : List T) (k : Nat), sumL c (l.drop k) ≤ sumL c l
  | _, 0 => by simp
  | [], k + 1 => by simp
  | x :: l, k + 1 => by have := sumL_drop c l k; simp only [List.drop_succ_cons, sumL]; omega
theorem lenL_drop {T : Type} (c : T → Nat) (l : List T) (k : Nat) : lenL c (l.drop k) ≤ lenL c l := by have := sumL_drop c l k; unfold lenL; rw [List.length_drop]; omega
theorem sumL_take {T : Type} (c : T → Nat) : ∀ (l : List T) (k : Nat), sumL c (l.take k) ≤ sumL c l
  | _, 0 => by simp [sumL]
  | [], k + 1 => by simp
  | x :: l, k + 1 => by have := sumL_take c l k; simp only [List.take_succ_cons, sumL]; omega
theorem lenL_take {T : Type} (c : T → Nat) (l : List T) (k : Nat) : lenL c (l.take k) ≤ lenL c l := by have := sumL_take c l k; unfold lenL; rw [List.length_take]; omega
theorem push_sz (l : List (List DPart)) (o : List DPart) : lenL (lenL szDPart) (push l o) ≤ lenL (lenL szDPart) l + 1 + lenL szDPart o := by
  have e : lenL (lenL szDPart) (l ++ [o]) = lenL (lenL szDPart) l + 1 + lenL szDPart o := by rw [lenL_app]; simp [lenL, sumL]; omega
  unfold push
  split
  · have := lenL_drop (lenL szDPart) (l ++ [o]) 1; omega
  · omega
theorem inv_sz (o : List DPart) (t : List Int) : lenL szDPart (inv o t).1 ≤ 800 := by
  cases h : fits o t with
  | true => exact okOp_sz (sm_inv h)
  | false => unfold inv; rw [h]; simp [lenL, sumL]
theorem pastDo_sz (p : DStory) (o : List DPart) (t : List Int) (h : szDStory p ≤ 1048576) : szDStory (pastDo p o t).1 ≤ 1000000000 := by
  unfold szDStory at h
  unfold pastDo
  split
  · have := push_sz p.undo (inv o t).1; have := inv_sz o t
    unfold szDStory; simp only [lenL, sumL, List.length_nil] at *; omega
  · decide
theorem lastOp_sz (l : List (List DPart)) (h : 0 < l.length) : lenL szDPart (lastOp l) ≤ lenL (lenL szDPart) l := by
  have := sumL_mem (c := lenL szDPart) (el_mem (l := l) (i := l.length - 1) (by omega))
  unfold lastOp
  unfold lenL at *; omega
theorem pastUndo_sz (p : DStory) (t : List Int) (h : szDStory p ≤ 1048576) : szDStory (pastUndo p t).1 ≤ 1000000000 ∧ lenL szDPart (pastUndo p t).2.1 ≤ 1000000000 := by
  unfold szDStory at h
  unfold pastUndo
  split
  · rename_i hc
    have h1 := push_sz p.redo (inv (lastOp p.undo) t).1; have h2 := inv_sz (lastOp p.undo) t
    have h3 := lenL_take (lenL szDPart) p.undo (p.undo.length - 1)
    have h4 := lastOp_sz p.undo hc.2
    unfold szDStory
    simp only
    refine ⟨?_, ?_⟩ <;> omega
  · exact ⟨by decide, by decide⟩
theorem swap_sz (p : DStory) : szDStory (swapS p) = szDStory p := by unfold szDStory swapS; simp only; omega
end Go.Proofs.Ythfkcpdechjmnaa
