/- Where an operation touches a text; clashes; operations at one place. No condition. -/
import Derived.Test.YtnpfbhejekpmaaaMk
import Derived.Test.YtnpfbhejekpmaaaG4
namespace Go.Proofs.Ytnpfbhejekpmaaa

def setR : List Int → Nat → Nat → List Int
  | l, _, 0 => l
  | l, a, n + 1 => setR (l.set a 1) (a + 1) n
theorem setR_len : ∀ (n : Nat) (l : List Int) (a : Nat), (setR l a n).length = l.length
  | 0, l, a => rfl
  | n + 1, l, a => by rw [setR, setR_len n]; simp
def touchL : List DPart → Nat → List Int → List Int
  | [], _, l => l
  | q :: o, a, l => if q.kind = 1 then touchL o (a + q.n.toNat) l else if q.kind = 2 then touchL o a (l.set a 1) else touchL o (a + q.n.toNat) (setR l a q.n.toNat)
theorem touchL_len : ∀ (o : List DPart) (a : Nat) (l : List Int), (touchL o a l).length = l.length
  | [], a, l => rfl
  | q :: o, a, l => by
    unfold touchL
    split
    · exact touchL_len o _ _
    · split
      · rw [touchL_len o]; simp
      · rw [touchL_len o, setR_len]
def bit (l : List Int) : Prop := ∀ x ∈ l, x = 0 ∨ x = 1
theorem bit_set {l : List Int} (h : bit l) (a : Nat) : bit (l.set a 1) := fun x hx => by
  rcases List.mem_or_eq_of_mem_set hx with hx | hx
  · exact h x hx
  · exact .inr hx
theorem bit_setR : ∀ (n : Nat) {l : List Int} (_ : bit l) (a : Nat), bit (setR l a n)
  | 0, _, h, _ => h
  | n + 1, _, h, a => bit_setR n (bit_set h a) (a + 1)
theorem bit_touch : ∀ (o : List DPart) (a : Nat) {l : List Int} (_ : bit l), bit (touchL o a l)
  | [], _, _, h => h
  | q :: o, a, l, h => by
    unfold touchL
    split
    · exact bit_touch o _ h
    · split
      · exact bit_touch o _ (bit_set h _)
      · exact bit_touch o _ (bit_setR _ h _)
theorem i_in (r : List DPart) (k : Nat) (a : Nat) (l : List Int) (n : Nat) (hn : (el r k).n = n) (hl : a + n < l.length) (hb : l.length ≤ 1000) : iter (x_impl_Touches_f1 r k a) (0, l) = some (setR l a n) := by
  have h := iter_go (f := x_impl_Touches_f1 r k a) (fun s => 0 ≤ s.1 ∧ s.1 ≤ n ∧ s.2.length = l.length) (fun s => ((n : Int) - s.1).toNat) (fun s => setR s.2 (a + s.1.toNat) (n - s.1.toNat)) (fun s hP => by
    obtain ⟨j, m⟩ := s
    obtain ⟨h1, h2, h3⟩ := hP
    simp only at h1 h2 h3 ⊢
    unfold x_impl_Touches_f1 x_impl_Touches_b1
    rw [hn]
    simp only
    by_cases hj : j < n
    · rw [cd_t hj, xg_I (by omega) (by omega), xg_of ⟨by omega, by omega⟩, xg_I (by omega) (by omega)]
      refine .inl ⟨_, rfl, ⟨by simp only; omega, by simp only; omega, by simp [h3]⟩, by simp only; omega, ?_⟩
      simp only
      rw [show n - j.toNat = (n - (j + 1).toNat) + 1 by omega, setR, show (a + j).toNat = a + j.toNat by omega, show a + (j + 1).toNat = a + j.toNat + 1 by omega]
    · rw [cd_f hj]
      refine .inr ?_
      rw [show n - j.toNat = 0 by omega]; rfl) (0, l) ⟨by simp, by simp, rfl⟩
  simpa using h
theorem s_in : x_spec_Touches_f1 = x_impl_Touches_f1 := rfl
theorem i_touch_loop {o : List DPart} (ho : ∀ p ∈ o, okPart p = true) {N : Nat} (hN : N ≤ 200) (hf : fromOf o = N) :
    eachN (x_impl_Touches_f0 o) (fun (s354 : Int × List Int) => (s354.2 : List Int)) o.length 0 (0, List.replicate (N + 1) 0) = some (touchL o 0 (List.replicate (N + 1) 0)) := by
  refine each_run (F := x_impl_Touches_f0 o) o (fun r k s => (∀ p ∈ r, okPart p = true) ∧ 0 ≤ s.1 ∧ s.1 + fromOf r = N ∧ s.2.length = N + 1) (fun r _ s => touchL r s.1.toNat s.2) (fun _ _ => rfl) (fun x r k s hk hx hP => ?_) (0, List.replicate (N + 1) 0) ⟨ho, by simp, by simp [hf], by simp⟩
  obtain ⟨a, l⟩ := s
  obtain ⟨h1, h2, h3, h4⟩ := hP
  simp only at h2 h3 h4 ⊢
  rw [from_cons] at h3
  have hr := from_ok (o := r) (fun p hp => h1 p (by simp [hp]))
  have hx1 := h1 x (by simp)
  have hr1 : ∀ p ∈ r, okPart p = true := fun p hp => h1 p (by simp [hp])
  unfold pFrom pKeep pDrop at h3
  unfold x_impl_Touches_f0 x_impl_Touches_b0
  rw [hx]
  simp only
  refine .inl ?_
  rcases okPart_cases hx1 with ⟨k1, k2, k3, k4⟩ | ⟨k1, k2, k3, k4⟩ | ⟨k1, k2, k3, k4⟩
  · simp [k1] at h3
    rw [cd_t k1, xg_I (by omega) (by omega)]
    refine ⟨_, rfl, ⟨hr1, by simp only; omega, by simp only; omega, h4⟩, ?_⟩
    simp only [touchL, k1, if_true]
    rw [show (a + x.n).toNat = a.toNat + x.n.toNat by omega]
  · simp [k1] at h3
    rw [cd_f (by omega), cd_t k1, xg_of ⟨by omega, by omega⟩]
    refine ⟨_, rfl, ⟨hr1, by simp only; omega, by simp only; omega, by simp [h4]⟩, ?_⟩
    simp [touchL, k1]
  · simp [k1] at h3
    obtain ⟨a, rfl⟩ := Int.eq_ofNat_of_zero_le h2
    obtain ⟨n, hn⟩ := Int.eq_ofNat_of_zero_le k2
    rw [cd_f (by omega), cd_f (by omega), i_in o k a l n (by rw [hx, hn]) (by omega) (by omega), Option.bind_some, xg_I (by omega) (by omega)]
    refine ⟨_, rfl, ⟨hr1, by simp only; omega, by simp only; omega, by simp only [setR_len]; exact h4⟩, ?_⟩
    simp only [touchL, k1, hn]
    simp
    rw [show ((a : Int) + (n : Int)).toNat = a + n by omega]
theorem s_touch_loop {o : List DPart} (ho : ∀ p ∈ o, okPart p = true) {N : Nat} (hN : N ≤ 200) (hf : fromOf o = N) :
    eachN (x_spec_Touches_f0 o) (fun (s354 : Int × List Int) => (s354.2 : List Int)) o.length 0 (0, List.replicate (N + 1) 0) = some (touchL o 0 (List.replicate (N + 1) 0)) := by
  refine each_run (F := x_spec_Touches_f0 o) o (fun r k s => (∀ p ∈ r, okPart p = true) ∧ 0 ≤ s.1 ∧ s.1 + fromOf r = N ∧ s.2.length = N + 1) (fun r _ s => touchL r s.1.toNat s.2) (fun _ _ => rfl) (fun x r k s hk hx hP => ?_) (0, List.replicate (N + 1) 0) ⟨ho, by simp, by simp [hf], by simp⟩
  obtain ⟨a, l⟩ := s
  obtain ⟨h1, h2, h3, h4⟩ := hP
  simp only at h2 h3 h4 ⊢
  rw [from_cons] at h3
  have hr := from_ok (o := r) (fun p hp => h1 p (by simp [hp]))
  have hx1 := h1 x (by simp)
  have hr1 : ∀ p ∈ r, okPart p = true := fun p hp => h1 p (by simp [hp])
  unfold pFrom pKeep pDrop at h3
  unfold x_spec_Touches_f0 x_spec_Touches_b0
  rw [hx, s_in]
  simp only
  refine .inl ?_
  rcases okPart_cases hx1 with ⟨k1, k2, k3, k4⟩ | ⟨k1, k2, k3, k4⟩ | ⟨k1, k2, k3, k4⟩
  · simp [k1] at h3
    rw [cd_f (by omega), cd_f (by omega), xg_I (by omega) (by omega)]
    refine ⟨_, rfl, ⟨hr1, by simp only; omega, by simp only; omega, h4⟩, ?_⟩
    simp only [touchL, k1, if_true]
    rw [show (a + x.n).toNat = a.toNat + x.n.toNat by omega]
  · simp [k1] at h3
    rw [cd_t k1, xg_of ⟨by omega, by omega⟩, xg_I (by omega) (by omega)]
    refine ⟨_, rfl, ⟨hr1, by simp only; omega, by simp only; omega, by simp [h4]⟩, ?_⟩
    simp [touchL, k1, k2]
  · simp [k1] at h3
    obtain ⟨a, rfl⟩ := Int.eq_ofNat_of_zero_le h2
    obtain ⟨n, hn⟩ := Int.eq_ofNat_of_zero_le k2
    rw [cd_f (by omega), cd_t k1, i_in o k a l n (by rw [hx, hn]) (by omega) (by omega), Option.bind_some, xg_I (by omega) (by omega)]
    refine ⟨_, rfl, ⟨hr1, by simp only; omega, by simp only; omega, by simp only [setR_len]; exact h4⟩, ?_⟩
    simp only [touchL, k1, hn]
    simp
    rw [show ((a : Int) + (n : Int)).toNat = a + n by omega]
def touches (o : List DPart) : List Int := if okOp o then touchL (nrm o) 0 (List.replicate ((fromOf o).toNat + 1) 0) else []
theorem touch_pre {o : List DPart} (h : okOp o = true) : (∀ p ∈ nrm o, okPart p = true) ∧ (fromOf o).toNat ≤ 200 ∧ fromOf (nrm o) = ((fromOf o).toNat : Int) := by
  have h1 := okOp_from h
  refine ⟨fun p hp => okParts_mem (okOp_parts (okOp_nrm h)) hp, by omega, ?_⟩
  rw [from_nrm (okOp_kinds h)]; omega
theorem i_Touches (o : List DPart) : x_impl_Touches o = some (touches o) := by
  unfold x_impl_Touches touches
  simp only [i_OpOk, i_OpFrom, i_OpNorm, Option.bind_some]
  cases h : okOp o with
  | false => rfl
  | true =>
    obtain ⟨h1, h2, h3⟩ := touch_pre h
    have h4 := okOp_from h
    simp only [okOp_parts h, if_true, Bool.not_true, cond_false]
    rw [xg_I (by omega) (by omega), xg_of ⟨by omega, by omega⟩, show (fromOf o + 1).toNat = (fromOf o).toNat + 1 by omega, i_touch_loop h1 h2 h3]; rfl
theorem s_Touches (o : List DPart) : x_spec_Touches o = some (touches o) := by
  unfold x_spec_Touches touches
  simp only [s_OpOk, s_OpFrom, s_OpNorm, Option.bind_some]
  cases h : okOp o with
  | false => rfl
  | true =>
    obtain ⟨h1, h2, h3⟩ := touch_pre h
    have h4 := okOp_from h
    simp only [okOp_parts h, if_true, Bool.not_true, cond_false]
    rw [xg_I (by omega) (by omega), xg_of ⟨by omega, by omega⟩, show (fromOf o + 1).toNat = (fromOf o).toNat + 1 by omega, s_touch_loop h1 h2 h3]; rfl
theorem touches_len (o : List DPart) : (touches o).length = if okOp o then (fromOf o).toNat + 1 else 0 := by
  unfold touches
  split
  · rw [touchL_len]; simp
  · rfl
theorem touches_bit (o : List DPart) : bit (touches o) := by
  unfold touches
  split
  · exact bit_touch _ _ (fun x hx => .inl (List.eq_of_mem_replicate hx))
  · exact fun x hx => by cases hx
def dot : List Int → List Int → Int
  | x :: a, y :: b => x * y + dot a b
  | _, _ => 0
theorem dot_loop {f : Nat → Int → Option (Lr Int Int)} (a b : List Int) (ha : bit a) (hb : bit b) (hl : a.length = b.length) (hn : a.length ≤ 1000)
    (hf : ∀ k s, k < a.length → f k s = (xg (0 ≤ (k : Int) ∧ (k : Int) < (b.length : Int)) <| xg (inI (el a k * (el b k))) <| xg (inI (s + (el a k * (el b k)))) <| some (Lr.go (s + (el a k * (el b k)))))) :
    eachN f (fun (s : Int) => (s : Int)) a.length 0 0 = some (dot a b) := by
  have h := each_run (F := f) (e := fun (s : Int) => s) a (fun r k s => 0 ≤ s ∧ s ≤ k ∧ k + r.length = a.length) (fun r k s => s + dot r (b.drop k)) (fun s _ => by simp [dot]) (fun x r k s hk hx hP => by
    obtain ⟨h1, h2, h3⟩ := hP
    have hkb : k < b.length := by omega
    have hx1 : x = 0 ∨ x = 1 := hx ▸ ha _ (el_mem hk)
    have hy1 : el b k = 0 ∨ el b k = 1 := hb _ (el_mem hkb)
    have hp : 0 ≤ x * el b k ∧ x * el b k ≤ 1 := by rcases hx1 with h | h <;> rcases hy1 with h' | h' <;> rw [h, h'] <;> decide
    refine .inl ⟨s + x * el b k, ?_, ⟨by omega, by omega, by simp only [List.length_cons] at h3; omega⟩, ?_⟩
    · rw [hf k s hk, hx, xg_of ⟨by omega, by omega⟩, xg_I (by omega) (by omega), xg_I (by omega) (by omega)]
    · rw [drop_el hkb, dot]; omega) 0 ⟨by simp, by simp, by simp⟩
  simpa using h
def clashes (a b : List DPart) : Int := if okOp a && okOp b && decide (fromOf a = fromOf b) then dot (touches a) (touches b) else -1
theorem i_Clashes (a b : List DPart) : x_impl_Clashes a b = some (clashes a b) := by
  unfold x_impl_Clashes clashes
  simp only [i_OpOk, i_OpFrom, i_Touches, Option.bind_some, cs_, co_]
  cases ha : okOp a with
  | false => rfl
  | true =>
    cases hb : okOp b with
    | false => rfl
    | true =>
      simp only [okOp_parts ha, okOp_parts hb, if_true, Bool.not_true, Bool.false_or, Bool.true_and]
      by_cases hc : fromOf a = fromOf b
      · have h1 := touches_len a; have h2 := touches_len b; have h3 := okOp_from ha
        rw [ha, if_pos rfl] at h1; rw [hb, if_pos rfl] at h2
        rw [decide_eq_true hc, if_pos rfl, Bool.not_true, cd_F, dot_loop (f := x_impl_Clashes_f0 (touches b) (touches a)) (touches a) (touches b) (touches_bit a) (touches_bit b) (by omega) (by omega) (fun k s _ => rfl)]; rfl
      · rw [decide_eq_false hc]; rfl
theorem s_Clashes (a b : List DPart) : x_spec_Clashes a b = some (clashes a b) := by
  unfold x_spec_Clashes clashes
  simp only [s_OpOk, s_Touches, Option.bind_some, cs_, co_]
  cases ha : okOp a with
  | false => rfl
  | true =>
    cases hb : okOp b with
    | false => rfl
    | true =>
      have h1 := touches_len a; have h2 := touches_len b; have h3 := okOp_from ha; have h4 := okOp_from hb
      rw [ha, if_pos rfl] at h1; rw [hb, if_pos rfl] at h2
      simp only [Bool.not_true, Bool.false_or, Bool.true_and]
      by_cases hc : fromOf a = fromOf b
      · rw [decide_eq_true hc, decide_eq_true (p := ((touches a).length : Int) = ((touches b).length : Int)) (by omega), if_pos rfl, Bool.not_true, cd_F, dot_loop (f := x_spec_Clashes_f0 (touches b) (touches a)) (touches a) (touches b) (touches_bit a) (touches_bit b) (by omega) (by omega) (fun k s _ => rfl)]; rfl
      · rw [decide_eq_false hc, decide_eq_false (p := ((touches a).length : Int) = ((touches b).length : Int)) (by omega)]; rfl
theorem i_Apart (a b : List DPart) : x_impl_Apart a b = some (decide (clashes a b = 0)) := by unfold x_impl_Apart; rw [i_Clashes]; rfl
theorem s_Apart (a b : List DPart) : x_spec_Apart a b = some (decide (clashes a b = 0)) := by unfold x_spec_Apart; rw [s_Clashes]; rfl
theorem lenI (l : List Int) : lenL szI l = l.length := lenL_z (fun _ => rfl) l

-- Operations at one place
def threeP (n a : Int) (l : List Int) : List DPart := [⟨1, a, []⟩, ⟨2, 0, l⟩, ⟨1, n - a, []⟩]
def threeD (n a m : Int) : List DPart := [⟨1, a, []⟩, ⟨3, m, []⟩, ⟨1, n - a - m, []⟩]
def putAt (n a : Int) (l : List Int) : List DPart × Bool := if (0 ≤ a ∧ a ≤ n) ∧ okOp (threeP n a l) = true then (nrm (threeP n a l), true) else ([], false)
def dropAt (n a m : Int) : List DPart × Bool := if ((0 ≤ a ∧ a ≤ n) ∧ 0 ≤ m ∧ m ≤ n - a) ∧ okOp (threeD n a m) = true then (nrm (threeD n a m), true) else ([], false)
theorem i_normalOr (o : List DPart) : x_impl_normalOr o = some (if okOp o then (nrm o, true) else ([], false)) := by
  unfold x_impl_normalOr
  simp only [i_OpOk, i_OpNorm, Option.bind_some]
  cases okOp o <;> rfl
theorem i_PutAt (n a : Int) (l : List Int) (hn : n ≤ 9223372036854775807) : x_impl_PutAt n a l = some (putAt n a l) := by
  unfold x_impl_PutAt putAt
  rw [i_within, Option.bind_some]
  by_cases h : 0 ≤ a ∧ a ≤ n
  · rw [decide_eq_true h, Bool.not_true, cd_F, xg_I (by omega) (by omega), i_normalOr]
    simp only [h, and_self, true_and, Option.bind_some, threeP]
  · rw [decide_eq_false h, if_neg (fun k => h k.1)]; rfl
theorem i_DropAt (n a m : Int) (hn : n ≤ 9223372036854775807) : x_impl_DropAt n a m = some (dropAt n a m) := by
  unfold x_impl_DropAt dropAt
  rw [i_within, Option.bind_some]
  by_cases h : 0 ≤ a ∧ a ≤ n
  · rw [decide_eq_true h, Bool.not_true, cd_F, xg_I (by omega) (by omega), i_within, Option.bind_some, Option.bind_some]
    by_cases h2 : 0 ≤ m ∧ m ≤ n - a
    · rw [decide_eq_true h2, Bool.not_true, cd_F, xg_I (by omega) (by omega), xg_I (by omega) (by omega), i_normalOr]
      simp only [h, h2, and_self, true_and, Option.bind_some, threeD]
    · rw [decide_eq_false h2, if_neg (fun k => h2 k.1.2)]; rfl
  · rw [decide_eq_false h, if_neg (fun k => h k.1.1)]; rfl
theorem three_fold (n a m : Int) (l : List Int) (h0 : 0 ≤ a) (h1 : a ≤ n) (h2 : 0 ≤ m) (h3 : m ≤ n - a) (hn : n ≤ 200) (hl : l.length ≤ 200) :
    x_spec_l06Op n a l m = some (if okOp [⟨1, a, []⟩, ⟨2, 0, l⟩, ⟨3, m, []⟩, ⟨1, n - a - m, []⟩] then (nrm [⟨1, a, []⟩, ⟨2, 0, l⟩, ⟨3, m, []⟩, ⟨1, n - a - m, []⟩], true) else ([], false)) := by
  have ks : kinds [⟨1, a, []⟩, ⟨2, 0, l⟩, ⟨3, m, []⟩, ⟨1, n - a - m, []⟩] := fun q hq => by
    simp only [List.mem_cons, List.not_mem_nil, or_false] at hq
    rcases hq with rfl | rfl | rfl | rfl
    · exact ⟨.inl rfl, h0, by simp⟩
    · exact ⟨.inr (.inl rfl), by simp, by simp⟩
    · exact ⟨.inr (.inr rfl), h2, by simp⟩
    · exact ⟨.inl rfl, by simp only; omega, by simp⟩
  have hnd : nrm [⟨1, a, []⟩, ⟨2, 0, l⟩, ⟨3, m, []⟩, ⟨1, n - a - m, []⟩] = flushL (bKeep (bDrop (bPut (bKeep bNil a) l) m) (n - a - m)) := rfl
  have b1 : Binv (bKeep bNil a) 1 := binv_keep binv_nil (by omega)
  have b2 : Binv (bPut (bKeep bNil a) l) 2 := binv_put b1 (by omega)
  have b3 : Binv (bDrop (bPut (bKeep bNil a) l) m) 3 := binv_drop b2 h2 (by omega)
  have b4 : Binv (bKeep (bDrop (bPut (bKeep bNil a) l) m) (n - a - m)) 4 := binv_keep b3 (by omega)
  have hf : fromOf [⟨1, a, []⟩, ⟨2, 0, l⟩, ⟨3, m, []⟩, ⟨1, n - a - m, []⟩] = n := by simp [fromOf, sumI, pFrom, pKeep, pDrop]; omega
  have hk : okOp (nrm [⟨1, a, []⟩, ⟨2, 0, l⟩, ⟨3, m, []⟩, ⟨1, n - a - m, []⟩]) = okOp [⟨1, a, []⟩, ⟨2, 0, l⟩, ⟨3, m, []⟩, ⟨1, n - a - m, []⟩] ∨ l.all okSign = false := by
    cases hs : l.all okSign with
    | false => exact .inr rfl
    | true =>
      left
      have e1 : okParts [⟨1, a, []⟩, ⟨2, 0, l⟩, ⟨3, m, []⟩, ⟨1, n - a - m, []⟩] = true := by
        unfold okParts
        simp only [List.all_cons, List.all_nil, okPart, hs]
        simp; omega
      cases ho : okOp [⟨1, a, []⟩, ⟨2, 0, l⟩, ⟨3, m, []⟩, ⟨1, n - a - m, []⟩] with
      | true => exact okOp_nrm ho
      | false =>
        have h4 : ¬ toOf [⟨1, a, []⟩, ⟨2, 0, l⟩, ⟨3, m, []⟩, ⟨1, n - a - m, []⟩] ≤ 200 := fun hc => by
          unfold okOp at ho
          rw [e1, hf] at ho
          simp [hn, hc] at ho
        cases hq : okOp (nrm [⟨1, a, []⟩, ⟨2, 0, l⟩, ⟨3, m, []⟩, ⟨1, n - a - m, []⟩]) with
        | false => rfl
        | true => have := okOp_to hq; rw [to_nrm ks] at this; exact absurd this.2 h4
  unfold x_spec_l06Op
  rw [s_In, Option.bind_some, decide_eq_true (p := 0 ≤ n ∧ n ≤ 200) ⟨by omega, hn⟩, Bool.not_true, cd_F, s_In, Option.bind_some, Option.bind_some, decide_eq_true (p := 0 ≤ a ∧ a ≤ n) ⟨h0, h1⟩, Bool.not_true, cd_F, xg_I (by omega) (by omega), s_In, Option.bind_some, Option.bind_some, decide_eq_true (p := 0 ≤ m ∧ m ≤ n - a) ⟨h2, h3⟩, Bool.not_true, cd_F, s_SignsOk, Option.bind_some, Option.bind_some]
  cases hs : l.all okSign with
  | false =>
    have : okOp [⟨1, a, []⟩, ⟨2, 0, l⟩, ⟨3, m, []⟩, ⟨1, n - a - m, []⟩] = false := by
      cases h : okOp [⟨1, a, []⟩, ⟨2, 0, l⟩, ⟨3, m, []⟩, ⟨1, n - a - m, []⟩] with
      | false => rfl
      | true => have := okParts_signs (okOp_parts h) ⟨2, 0, l⟩ (by simp) rfl; simp only at this; rw [hs] at this; cases this
    rw [this]; rfl
  | true =>
    rw [Bool.not_true, cd_F, Option.bind_some, decide_eq_false (p := (200 : Int) < (l.length : Int)) (by omega), cd_F]
    have e0 : (⟨[], [], 0⟩ : DL02B) = bNil := rfl
    rw [e0, s_Keep binv_nil (by decide) h0 (by omega), Option.bind_some, s_Put b1 (by decide) (by omega), Option.bind_some, s_Drop b2 (by decide) h2 (by omega), Option.bind_some, xg_I (by omega) (by omega), xg_I (by omega) (by omega), s_Keep b3 (by decide) (by omega) (by omega), Option.bind_some, s_Done b4 (by decide), Option.bind_some]
    simp only
    rw [s_OpOk, Option.bind_some, ← hnd]
    rcases hk with hk | hk
    · rw [hk]
      cases okOp [⟨1, a, []⟩, ⟨2, 0, l⟩, ⟨3, m, []⟩, ⟨1, n - a - m, []⟩] <;> rfl
    · rw [hs] at hk; cases hk
theorem okPart_nil (k n : Int) (h0 : 0 ≤ n) (h1 : n ≤ 200) (hk : k = 1 ∨ k = 3) : okPart ⟨k, n, []⟩ = true := by
  unfold okPart
  rw [if_pos hk]; simp; omega
/-- A part without effect may be left out. -/
theorem three_zero (n a : Int) (l : List Int) (h1 : 0 ≤ a) (h2 : a ≤ n) : (okOp [⟨1, a, []⟩, ⟨2, 0, l⟩, ⟨3, 0, []⟩, ⟨1, n - a - 0, []⟩] = okOp (threeP n a l)) ∧ nrm [⟨1, a, []⟩, ⟨2, 0, l⟩, ⟨3, 0, []⟩, ⟨1, n - a - 0, []⟩] = nrm (threeP n a l) := by
  constructor
  · unfold okOp okParts threeP fromOf toOf
    simp [sumI, pFrom, pTo, pKeep, pDrop, pPut, okPart_nil 3 0]
  · unfold threeP
    simp only [nrm, List.foldl_cons, List.foldl_nil]
    have : bPart (bPart (bPart bNil ⟨1, a, []⟩) ⟨2, 0, l⟩) ⟨3, 0, []⟩ = bPart (bPart bNil ⟨1, a, []⟩) ⟨2, 0, l⟩ := by
      simp [bPart, bDrop]
    rw [this]; simp
theorem three_none (n a m : Int) (h1 : 0 ≤ a) (h2 : a ≤ n) : (okOp [⟨1, a, []⟩, ⟨2, 0, []⟩, ⟨3, m, []⟩, ⟨1, n - a - m, []⟩] = okOp (threeD n a m)) ∧ nrm [⟨1, a, []⟩, ⟨2, 0, []⟩, ⟨3, m, []⟩, ⟨1, n - a - m, []⟩] = nrm (threeD n a m) := by
  constructor
  · unfold okOp okParts threeD fromOf toOf
    have : okPart ⟨2, 0, []⟩ = true := rfl
    simp [sumI, pFrom, pTo, pKeep, pDrop, pPut, this]
  · unfold threeD
    simp only [nrm, List.foldl_cons, List.foldl_nil]
    have : bPart (bPart bNil ⟨1, a, []⟩) ⟨2, 0, []⟩ = bPart bNil ⟨1, a, []⟩ := by
      simp [bPart, bPut]
    rw [this]
theorem l06_bad {n a m : Int} {l : List Int} (h : ¬ ((0 ≤ n ∧ n ≤ 200) ∧ (0 ≤ a ∧ a ≤ n) ∧ (0 ≤ m ∧ m ≤ n - a) ∧ l.length ≤ 200)) (hl : l.length ≤ 9223372036854775807) : x_spec_l06Op n a l m = some ([], false) := by
  unfold x_spec_l06Op
  rw [s_In, Option.bind_some]
  by_cases h1 : 0 ≤ n ∧ n ≤ 200
  · rw [decide_eq_true h1, Bool.not_true, cd_F, s_In, Option.bind_some, Option.bind_some]
    by_cases h2 : 0 ≤ a ∧ a ≤ n
    · rw [decide_eq_true h2, Bool.not_true, cd_F, xg_I (by omega) (by omega), s_In, Option.bind_some, Option.bind_some]
      by_cases h3 : 0 ≤ m ∧ m ≤ n - a
      · rw [decide_eq_true h3, Bool.not_true, cd_F, s_SignsOk, Option.bind_some, Option.bind_some]
        cases l.all okSign with
        | false => rfl
        | true => rw [Bool.not_true, cd_F, Option.bind_some, decide_eq_true (p := (200 : Int) < (l.length : Int)) (by omega)]; rfl
      · rw [decide_eq_false h3]; rfl
    · rw [decide_eq_false h2]; rfl
  · rw [decide_eq_false h1]; rfl
theorem s_PutAt (n a : Int) (l : List Int) (hl : l.length ≤ 9223372036854775807) : x_spec_PutAt n a l = some (putAt n a l) := by
  unfold x_spec_PutAt putAt
  by_cases h : (0 ≤ n ∧ n ≤ 200) ∧ (0 ≤ a ∧ a ≤ n) ∧ (0 ≤ (0 : Int) ∧ 0 ≤ n - a) ∧ l.length ≤ 200
  · have h3 := three_zero n a l h.2.1.1 h.2.1.2
    rw [three_fold n a 0 l h.2.1.1 h.2.1.2 (by omega) h.2.2.1.2 h.1.2 h.2.2.2, h3.1, h3.2, Option.bind_some]
    cases ho : okOp (threeP n a l) with
    | false => simp
    | true => simp [h.2.1]
  · rw [l06_bad h hl, Option.bind_some, if_neg]
    intro ⟨k1, k2⟩
    have e1 := okOp_from k2
    have e2 : fromOf (threeP n a l) = n := by simp [threeP, fromOf, sumI, pFrom, pKeep, pDrop]; omega
    have e3 := (okPart_len (okParts_mem (okOp_parts k2) (p := ⟨2, 0, l⟩) (by simp [threeP]))).1
    rw [e2] at e1
    simp only at e3
    exact h ⟨by omega, k1, by omega, e3⟩
theorem s_DropAt (n a m : Int) : x_spec_DropAt n a m = some (dropAt n a m) := by
  unfold x_spec_DropAt dropAt
  by_cases h : (0 ≤ n ∧ n ≤ 200) ∧ (0 ≤ a ∧ a ≤ n) ∧ (0 ≤ m ∧ m ≤ n - a) ∧ ([] : List Int).length ≤ 200
  · have h3 := three_none n a m h.2.1.1 h.2.1.2
    rw [three_fold n a m [] h.2.1.1 h.2.1.2 h.2.2.1.1 h.2.2.1.2 h.1.2 h.2.2.2, h3.1, h3.2, Option.bind_some]
    cases ho : okOp (threeD n a m) with
    | false => simp
    | true => simp [h.2.1, h.2.2.1]
  · rw [l06_bad h (by simp), Option.bind_some, if_neg]
    intro ⟨k1, k2⟩
    have e1 := okOp_from k2
    have e2 : fromOf (threeD n a m) = n := by simp [threeD, fromOf, sumI, pFrom, pKeep, pDrop]; omega
    rw [e2] at e1
    exact h ⟨by omega, k1.1, k1.2, by simp⟩
end Go.Proofs.Ytnpfbhejekpmaaa
