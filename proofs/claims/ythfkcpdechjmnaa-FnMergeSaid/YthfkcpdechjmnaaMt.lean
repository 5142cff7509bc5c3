/- Where an operation touches a text; clashes; operations at one place. No condition. -/
import Derived.Test.YthfkcpdechjmnaaMk
import Derived.Test.YthfkcpdechjmnaaG4
namespace Go.Proofs.Ythfkcpdechjmnaa

def setR : List Int → Nat → Nat → List Int
  | l, _, 0 => l
  | l, a, n + 1 => setR (l.set a 1) (a + 1) n
theorem setR_len : ∀ (n : Nat) (l : List Int) (a : Nat), (setR l a n).length = l.length
  | 0, l, a => rfl
  | n + 1, l, a => by rw [setR, setR_len n]; simp
def touchL : List DPart → Nat → List Int → List Int
  | [], _, l => l
  | q :: o, a, l => if q.kind = 1 then touchL o (a + q.n.toNat) l else if q.kind = 2 then touchL o a (l.set a 1) else touchL o (a + q.n.toNat) (setR l a q.n.toNat)
theorem touchL_len : ∀ (o : List DPart) (a : Nat) (l : List Int), (touchL o a l).length = l.length
  | [], a, l => rfl
  | q :: o, a, l => by
    unfold touchL
    split
    · exact touchL_len o _ _
    · split
      · rw [touchL_len o]; simp
      · rw [touchL_len o, setR_len]
def bit (l : List Int) : Prop := ∀ x ∈ l, x = 0 ∨ x = 1
theorem bit_set {l : List Int} (h : bit l) (a : Nat) : bit (l.set a 1) := fun x hx => by
  rcases List.mem_or_eq_of_mem_set hx with hx | hx
  · exact h x hx
  · exact .inr hx
theorem bit_setR : ∀ (n : Nat) {l : List Int} (_ : bit l) (a : Nat), bit (setR l a n)
  | 0, _, h, _ => h
  | n + 1, _, h, a => bit_setR n (bit_set h a) (a + 1)
theorem bit_touch : ∀ (o : List DPart) (a : Nat) {l : List Int} (_ : bit l), bit (touchL o a l)
  | [], _, _, h => h
  | q :: o, a, l, h => by
    unfold touchL
    split
    · exact bit_touch o _ h
    · split
      · exact bit_touch o _ (bit_set h _)
      · exact bit_touch o _ (bit_setR _ h _)
theorem i_in (r : List DPart) (k : Nat) (a : Nat) (l : List Int) (n : Nat) (hn : (el r k).n = n) (hl : a + n < l.length) (hb : l.length ≤ 1000) : iter (x_impl_Touches_f1 r k a) (0, l) = some (setR l a n) := by
  have h := iter_go (f := x_impl_Touches_f1 r k a) (fun s => 0 ≤ s.1 ∧ s.1 ≤ n ∧ s.2.length = l.length) (fun s => ((n : Int) - s.1).toNat) (fun s => setR s.2 (a + s.1.toNat) (n - s.1.toNat)) (fun s hP => by
    obtain ⟨j, m⟩ := s
    obtain ⟨h1, h2, h3⟩ := hP
    simp only at h1 h2 h3 ⊢
    unfold x_impl_Touches_f1 x_impl_Touches_b1
    rw [hn]
    simp only
    by_cases hj : j < n
    · rw [cd_t hj, xg_I (by omega) (by omega), xg_of ⟨by omega, by omega⟩, xg_I (by omega) (by omega)]
      refine .inl ⟨_, rfl, ⟨by simp only; omega, by simp only; omega, by simp [h3]⟩, by simp only; omega, ?_⟩
      simp only
      rw [show n - j.toNat = (n - (j + 1).toNat) + 1 by omega, setR, show (a + j).toNat = a + j.toNat by omega, show a + (j + 1).toNat = a + j.toNat + 1 by omega]
    · rw [cd_f hj]
      refine .inr ?_
      rw [show n - j.toNat = 0 by omega]; rfl) (0, l) ⟨by simp, by simp, rfl⟩
  simpa using h
theorem i_touch_loop {o : List DPart} (ho : ∀ p ∈ o, okPart p = true) {N : Nat} (hN : N ≤ 200) (hf : fromOf o = N) :
    eachN (x_impl_Touches_f0 o) (fun (s354 : Int × List Int) => (s354.2 : List Int)) o.length 0 (0, List.replicate (N + 1) 0) = some (touchL o 0 (List.replicate (N + 1) 0)) := by
  refine each_run (F := x_impl_Touches_f0 o) o (fun r k s => (∀ p ∈ r, okPart p = true) ∧ 0 ≤ s.1 ∧ s.1 + fromOf r = N ∧ s.2.length = N + 1) (fun r _ s => touchL r s.1.toNat s.2) (fun _ _ => rfl) (fun x r k s hk hx hP => ?_) (0, List.replicate (N + 1) 0) ⟨ho, by simp, by simp [hf], by simp⟩
  obtain ⟨a, l⟩ := s
  obtain ⟨h1, h2, h3, h4⟩ := hP
  simp only at h2 h3 h4 ⊢
  rw [from_cons] at h3
  have hr := from_ok (o := r) (fun p hp => h1 p (by simp [hp]))
  have hx1 := h1 x (by simp)
  have hr1 : ∀ p ∈ r, okPart p = true := fun p hp => h1 p (by simp [hp])
  unfold pFrom pKeep pDrop at h3
  unfold x_impl_Touches_f0 x_impl_Touches_b0
  rw [hx]
  simp only
  refine .inl ?_
  rcases okPart_cases hx1 with ⟨k1, k2, k3, k4⟩ | ⟨k1, k2, k3, k4⟩ | ⟨k1, k2, k3, k4⟩
  · simp [k1] at h3
    rw [cd_t k1, xg_I (by omega) (by omega)]
    refine ⟨_, rfl, ⟨hr1, by simp only; omega, by simp only; omega, h4⟩, ?_⟩
    simp only [touchL, k1, if_true]
    rw [show (a + x.n).toNat = a.toNat + x.n.toNat by omega]
  · simp [k1] at h3
    rw [cd_f (by omega), cd_t k1, xg_of ⟨by omega, by omega⟩]
    refine ⟨_, rfl, ⟨hr1, by simp only; omega, by simp only; omega, by simp [h4]⟩, ?_⟩
    simp [touchL, k1]
  · simp [k1] at h3
    obtain ⟨a, rfl⟩ := Int.eq_ofNat_of_zero_le h2
    obtain ⟨n, hn⟩ := Int.eq_ofNat_of_zero_le k2
    rw [cd_f (by omega), cd_f (by omega), i_in o k a l n (by rw [hx, hn]) (by omega) (by omega), Option.bind_some, xg_I (by omega) (by omega)]
    refine ⟨_, rfl, ⟨hr1, by simp only; omega, by simp only; omega, by simp only [setR_len]; exact h4⟩, ?_⟩
    simp only [touchL, k1, hn]
    simp
    rw [show ((a : Int) + (n : Int)).toNat = a + n by omega]
def touches (o : List DPart) : List Int := if okOp o then touchL (nrm o) 0 (List.replicate ((fromOf o).toNat + 1) 0) else []
theorem touch_pre {o : List DPart} (h : okOp o = true) : (∀ p ∈ nrm o, okPart p = true) ∧ (fromOf o).toNat ≤ 200 ∧ fromOf (nrm o) = ((fromOf o).toNat : Int) := by
  have h1 := okOp_from h
  refine ⟨fun p hp => okParts_mem (okOp_parts (okOp_nrm h)) hp, by omega, ?_⟩
  rw [from_nrm (okOp_kinds h)]; omega
theorem i_Touches (o : List DPart) : x_impl_Touches o = some (touches o) := by
  unfold x_impl_Touches touches
  simp only [i_OpOk, i_OpFrom, i_OpNorm, Option.bind_some]
  cases h : okOp o with
  | false => rfl
  | true =>
    obtain ⟨h1, h2, h3⟩ := touch_pre h
    have h4 := okOp_from h
    simp only [okOp_parts h, if_true, Bool.not_true, cond_false]
    rw [xg_I (by omega) (by omega), xg_of ⟨by omega, by omega⟩, show (fromOf o + 1).toNat = (fromOf o).toNat + 1 by omega, i_touch_loop h1 h2 h3]; rfl
theorem touches_len (o : List DPart) : (touches o).length = if okOp o then (fromOf o).toNat + 1 else 0 := by
  unfold touches
  split
  · rw [touchL_len]; simp
  · rfl
theorem touches_bit (o : List DPart) : bit (touches o) := by
  unfold touches
  split
  · exact bit_touch _ _ (fun x hx => .inl (List.eq_of_mem_replicate hx))
  · exact fun x hx => by cases hx
def dot : List Int → List Int → Int
  | x :: a, y :: b => x * y + dot a b
  | _, _ => 0
theorem dot_loop {f : Nat → Int → Option (Lr Int Int)} (a b : List Int) (ha : bit a) (hb : bit b) (hl : a.length = b.length) (hn : a.length ≤ 1000)
    (hf : ∀ k s, k < a.length → f k s = (xg (0 ≤ (k : Int) ∧ (k : Int) < (b.length : Int)) <| xg (inI (el a k * (el b k))) <| xg (inI (s + (el a k * (el b k)))) <| some (Lr.go (s + (el a k * (el b k)))))) :
    eachN f (fun (s : Int) => (s : Int)) a.length 0 0 = some (dot a b) := by
  have h := each_run (F := f) (e := fun (s : Int) => s) a (fun r k s => 0 ≤ s ∧ s ≤ k ∧ k + r.length = a.length) (fun r k s => s + dot r (b.drop k)) (fun s _ => by simp [dot]) (fun x r k s hk hx hP => by
    obtain ⟨h1, h2, h3⟩ := hP
    have hkb : k < b.length := by omega
    have hx1 : x = 0 ∨ x = 1 := hx ▸ ha _ (el_mem hk)
    have hy1 : el b k = 0 ∨ el b k = 1 := hb _ (el_mem hkb)
    have hp : 0 ≤ x * el b k ∧ x * el b k ≤ 1 := by rcases hx1 with h | h <;> rcases hy1 with h' | h' <;> rw [h, h'] <;> decide
    refine .inl ⟨s + x * el b k, ?_, ⟨by omega, by omega, by simp only [List.length_cons] at h3; omega⟩, ?_⟩
    · rw [hf k s hk, hx, xg_of ⟨by omega, by omega⟩, xg_I (by omega) (by omega), xg_I (by omega) (by omega)]
    · rw [drop_el hkb, dot]; omega) 0 ⟨by simp, by simp, by simp⟩
  simpa using h
def clashes (a b : List DPart) : Int := if okOp a && okOp b && decide (fromOf a = fromOf b) then dot (touches a) (touches b) else -1
theorem i_Clashes (a b : List DPart) : x_impl_Clashes a b = some (clashes a b) := by
  unfold x_impl_Clashes clashes
  simp only [i_OpOk, i_OpFrom, i_Touches, Option.bind_some, cs_, co_]
  cases ha : okOp a with
  | false => rfl
  | true =>
    cases hb : okOp b with
    | false => rfl
    | true =>
      simp only [okOp_parts ha, okOp_parts hb, if_true, Bool.not_true, Bool.false_or, Bool.true_and]
      by_cases hc : fromOf a = fromOf b
      · have h1 := touches_len a; have h2 := touches_len b; have h3 := okOp_from ha
        rw [ha, if_pos rfl] at h1; rw [hb, if_pos rfl] at h2
        rw [decide_eq_true hc, if_pos rfl, Bool.not_true, cd_F, dot_loop (f := x_impl_Clashes_f0 (touches b) (touches a)) (touches a) (touches b) (touches_bit a) (touches_bit b) (by omega) (by omega) (fun k s _ => rfl)]; rfl
      · rw [decide_eq_false hc]; rfl
theorem i_Apart (a b : List DPart) : x_impl_Apart a b = some (decide (clashes a b = 0)) := by unfold x_impl_Apart; rw [i_Clashes]; rfl
theorem lenI (l : List Int) : lenL szI l = l.length := lenL_z (fun _ => rfl) l

-- Operations at one place
def threeP (n a : Int) (l : List Int) : List DPart := [⟨1, a, []⟩, ⟨2, 0, l⟩, ⟨1, n - a, []⟩]
def threeD (n a m : Int) : List DPart := [⟨1, a, []⟩, ⟨3, m, []⟩, ⟨1, n - a - m, []⟩]
def putAt (n a : Int) (l : List Int) : List DPart × Bool := if (0 ≤ a ∧ a ≤ n) ∧ okOp (threeP n a l) = true then (nrm (threeP n a l), true) else ([], false)
def dropAt (n a m : Int) : List DPart × Bool := if ((0 ≤ a ∧ a ≤ n) ∧ 0 ≤ m ∧ m ≤ n - a) ∧ okOp (threeD n a m) = true then (nrm (threeD n a m), true) else ([], false)
end Go.Proofs.Ythfkcpdechjmnaa
