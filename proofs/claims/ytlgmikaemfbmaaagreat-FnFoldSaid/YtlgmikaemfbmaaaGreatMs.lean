/- Operations that take back, copies, and stories. No condition. -/
import Derived.Test.YtlgmikaemfbmaaaGreatMk
import Derived.Test.YtlgmikaemfbmaaaGreatG7
namespace Go.Proofs.YtlgmikaemfbmaaaGreat

-- Taking back
def invL : List DPart → List Int → List DPart
  | [], _ => []
  | p :: o, t => if p.kind = 1 then p :: invL o (t.drop p.n.toNat) else if p.kind = 3 then ⟨2, 0, t.take p.n.toNat⟩ :: invL o (t.drop p.n.toNat) else ⟨3, (p.signs.length : Int), []⟩ :: invL o t
theorem invL_ok : ∀ {o : List DPart} {t : List Int}, (∀ p ∈ o, okPart p = true) → t.all okSign = true → fromOf o = t.length → (∀ p ∈ invL o t, okPart p = true) ∧ (invL o t).length = o.length ∧ fromOf (invL o t) = toOf o ∧ toOf (invL o t) = fromOf o
  | [], t, _, _, _ => by simp [invL, fromOf, toOf, sumI]
  | p :: o, t, h, ht, hf => by
    have ho : ∀ q ∈ o, okPart q = true := fun q hq => h q (by simp [hq])
    have hp := h p (by simp)
    have h0 := from_ok ho
    rw [from_cons] at hf
    have hd : ∀ k, (t.drop k).all okSign = true := fun k => List.all_eq_true.2 fun x hx => List.all_eq_true.1 ht x (List.mem_of_mem_drop hx)
    have htk : ∀ k, (t.take k).all okSign = true := fun k => List.all_eq_true.2 fun x hx => List.all_eq_true.1 ht x (List.mem_of_mem_take hx)
    simp only [to_cons, from_cons]
    unfold pFrom pKeep pDrop at hf
    unfold invL pFrom pTo pKeep pDrop pPut
    rcases okPart_cases hp with ⟨k1, k2, k3, k4⟩ | ⟨k1, k2, k3, k4⟩ | ⟨k1, k2, k3, k4⟩
    · simp [k1] at hf
      obtain ⟨i1, i2, i3, i4⟩ := invL_ok (o := o) (t := t.drop p.n.toNat) ho (hd _) (by simp; omega)
      rw [if_pos k1]
      refine ⟨fun q hq => ?_, by simp [i2], ?_, ?_⟩
      · rcases List.mem_cons.1 hq with rfl | hq
        · exact hp
        · exact i1 q hq
      · rw [from_cons, i3]; simp [k1, pFrom, pKeep, pDrop]
      · rw [to_cons, i4]; simp [k1, pTo, pKeep, pPut]
    · simp [k1] at hf
      obtain ⟨i1, i2, i3, i4⟩ := invL_ok (o := o) (t := t) ho ht hf
      rw [if_neg (by omega), if_neg (by omega)]
      refine ⟨fun q hq => ?_, by simp [i2], ?_, ?_⟩
      · rcases List.mem_cons.1 hq with rfl | hq
        · unfold okPart; simp; omega
        · exact i1 q hq
      · rw [from_cons, i3]; simp [k1, pFrom, pKeep, pDrop]
      · rw [to_cons, i4]; simp [k1, pTo, pKeep, pPut]
    · simp [k1] at hf
      obtain ⟨i1, i2, i3, i4⟩ := invL_ok (o := o) (t := t.drop p.n.toNat) ho (hd _) (by simp; omega)
      rw [if_neg (by omega), if_pos k1]
      refine ⟨fun q hq => ?_, by simp [i2], ?_, ?_⟩
      · rcases List.mem_cons.1 hq with rfl | hq
        · unfold okPart; rw [if_neg (by simp), if_pos rfl, htk]; simp; omega
        · exact i1 q hq
      · rw [from_cons, i3]; simp [k1, pFrom, pKeep, pDrop]
      · rw [to_cons, i4]; simp [k1, pTo, pKeep, pPut]; omega
def inv (o : List DPart) (t : List Int) : List DPart × Bool := if fits o t then (nrm (invL (nrm o) t), true) else ([], false)
theorem okText_signs {t : List Int} (h : okText t = true) : t.all okSign = true := by
  unfold okText at h
  simp only [Bool.and_eq_true] at h
  exact h.2
theorem inv_ok {o : List DPart} {t : List Int} (h : fits o t = true) : okOp (invL (nrm o) t) = true ∧ fromOf (invL (nrm o) t) = toOf o ∧ toOf (invL (nrm o) t) = fromOf o := by
  obtain ⟨h1, h2, h3⟩ := fits_get h
  have hn := okOp_nrm h1
  have hk := okOp_kinds h1
  obtain ⟨i1, i2, i3, i4⟩ := invL_ok (o := nrm o) (t := t) (fun p hp => okParts_mem (okOp_parts hn) hp) (okText_signs h2) (by rw [from_nrm hk, h3])
  rw [to_nrm hk] at i3; rw [from_nrm hk] at i4
  refine ⟨?_, i3, i4⟩
  have e1 := okOp_from h1; have e2 := okOp_to h1; have e3 := okParts_len (okOp_parts hn)
  have e4 : (invL (nrm o) t).all okPart = true := List.all_eq_true.2 i1
  unfold okOp okParts
  rw [e4, i3, i4]
  simp; omega

-- Copies
theorem copy_loop {T : Type} [Inhabited T] {f : Nat → List T → Option (Lr (List T) (List T))} (l : List T) (hl : l.length ≤ 1099511627776) (hf : ∀ k s, k < l.length → s.length ≤ k → f k s = some (.go (s ++ [el l k]))) : eachN f (fun (s : List T) => (s : List T)) l.length 0 [] = some l := by
  have h := each_run (F := f) (e := fun (s : List T) => s) l (fun r k s => s.length ≤ k) (fun r _ s => s ++ r) (fun s _ => by simp) (fun x r k s hk hx hP => .inl ⟨_, hf k s hk hP, by simp; omega, by simp [hx]⟩) [] (by simp)
  simpa using h
theorem i_copyOp {o : List DPart} (h : smL smDPart o) : x_impl_copyOp o = some o := by
  unfold x_impl_copyOp
  rw [copy_loop o h.1 (fun k s hk hs => by
    have hm := h.2 _ (el_mem hk)
    have h1 := h.1
    unfold x_impl_copyOp_f0 x_impl_copyOp_b0
    rw [i_copyInts hm.2.2.1, Option.bind_some, xg_of (by omega)])]
  rfl
theorem s_copyOp {o : List DPart} (h : smL smDPart o) : x_spec_l02Copy o = some o := by
  unfold x_spec_l02Copy
  rw [copy_loop o h.1 (fun k s hk hs => by
    have hm := h.2 _ (el_mem hk)
    have h1 := h.1
    have h2 := hm.2.2.1
    unfold x_spec_l02Copy_f0 x_spec_l02Copy_b0
    rw [xg_of (by omega), xg_of (by simp; omega)]; rfl)]
  rfl
def push (l : List (List DPart)) (o : List DPart) : List (List DPart) := if 8 < (l ++ [o]).length then (l ++ [o]).drop 1 else l ++ [o]

-- Stories
def isNorm (o : List DPart) : Bool := okOp o && decide (o = nrm o)
theorem isNorm_ok {o : List DPart} (h : isNorm o = true) : okOp o = true ∧ nrm o = o := by
  unfold isNorm at h
  simp only [Bool.and_eq_true, decide_eq_true_eq] at h
  exact ⟨h.1, h.2.symm⟩
def stk : List (List DPart) → Int → Bool
  | [], _ => true
  | o :: r, n => (isNorm o && decide (fromOf o = n)) && stk r (toOf o)
def okStack (l : List (List DPart)) (n : Int) : Bool := decide (l.length ≤ 8) && stk l.reverse n
theorem take_rev {T : Type} [Inhabited T] {l : List T} {i : Nat} (h : i < l.length) : (l.take (i + 1)).reverse = el l i :: (l.take i).reverse := by
  rw [List.take_add_one, List.getElem?_eq_getElem h, ← el_eq h]; simp
theorem sm_op {o : List DPart} (h : okOp o = true) : smL smDPart o := by
  have h1 := okParts_len (okOp_parts h)
  refine ⟨by omega, fun q hq => ?_⟩
  have h2 := okPart_len (okParts_mem (okOp_parts h) hq)
  exact ⟨trivial, trivial, by omega, fun _ _ => trivial⟩
theorem sm_inv {o : List DPart} {t : List Int} (h : fits o t = true) : okOp (inv o t).1 = true := by
  unfold inv; rw [if_pos h]; exact okOp_nrm (inv_ok h).1
def lastOp (l : List (List DPart)) : List DPart := el l (l.length - 1)
theorem stk_last {l : List (List DPart)} {n : Int} (h : stk l.reverse n = true) (hl : 0 < l.length) : isNorm (lastOp l) = true ∧ fromOf (lastOp l) = n := by
  have e := take_rev (l := l) (i := l.length - 1) (by omega)
  rw [show l.length - 1 + 1 = l.length by omega, List.take_length] at e
  rw [e, stk] at h
  simp only [Bool.and_eq_true, decide_eq_true_eq] at h
  exact h.1
theorem sm_take {l : List (List DPart)} (h : smL (smL smDPart) l) (k : Nat) : smL (smL smDPart) (l.take k) := ⟨by have := h.1; rw [List.length_take]; omega, fun x hx => h.2 x (List.mem_of_mem_take hx)⟩

-- Sizes
theorem lenL_app {T : Type} (c : T → Nat) (a b : List T) : lenL c (a ++ b) = lenL c a + lenL c b := by unfold lenL; rw [sumL_app, List.length_append]; omega
theorem sumL_drop {T : Type} (c : T → Nat) : ∀ (l : List T) (k : Nat), sumL c (l.drop k) ≤ sumL c l
  | _, 0 => by simp
  | [], k + 1 => by simp
  | x :: l, k + 1 => by have := sumL_drop c l k; simp only [List.drop_succ_cons, sumL]; omega
theorem lenL_drop {T : Type} (c : T → Nat) (l : List T) (k : Nat) : lenL c (l.drop k) ≤ lenL c l := by have := sumL_drop c l k; unfold lenL; rw [List.length_drop]; omega
theorem sumL_take {T : Type} (c : T → Nat) : ∀ (l : List T) (k : Nat), sumL c (l.take k) ≤ sumL c l
  | _, 0 => by simp [sumL]
  | [], k + 1 => by simp
  | x :: l, k + 1 => by have := sumL_take c l k; simp only [List.take_succ_cons, sumL]; omega
theorem lenL_take {T : Type} (c : T → Nat) (l : List T) (k : Nat) : lenL c (l.take k) ≤ lenL c l := by have := sumL_take c l k; unfold lenL; rw [List.length_take]; omega
theorem push_sz (l : List (List DPart)) (o : List DPart) : lenL (lenL szDPart) (push l o) ≤ lenL (lenL szDPart) l + 1 + lenL szDPart o := by
  have e : lenL (lenL szDPart) (l ++ [o]) = lenL (lenL szDPart) l + 1 + lenL szDPart o := by rw [lenL_app]; simp [lenL, sumL]; omega
  unfold push
  split
  · have := lenL_drop (lenL szDPart) (l ++ [o]) 1; omega
  · omega
theorem inv_sz (o : List DPart) (t : List Int) : lenL szDPart (inv o t).1 ≤ 800 := by
  cases h : fits o t with
  | true => exact okOp_sz (sm_inv h)
  | false => unfold inv; rw [h]; simp [lenL, sumL]
theorem lastOp_sz (l : List (List DPart)) (h : 0 < l.length) : lenL szDPart (lastOp l) ≤ lenL (lenL szDPart) l := by
  have := sumL_mem (c := lenL szDPart) (el_mem (l := l) (i := l.length - 1) (by omega))
  unfold lastOp
  unfold lenL at *; omega
end Go.Proofs.YtlgmikaemfbmaaaGreat
