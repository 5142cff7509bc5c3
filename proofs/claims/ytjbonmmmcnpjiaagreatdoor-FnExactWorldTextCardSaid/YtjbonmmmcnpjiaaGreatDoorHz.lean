/- Plain laws of loops: a chain, the first of its kind, with places. No condition. -/
import Derived.Test.YtjbonmmmcnpjiaaGreatDoorMd
namespace Go.Proofs.YtjbonmmmcnpjiaaGreatDoor
section
variable {T σ ρ : Type} [Inhabited T]
def chainL (q : Option T → T → Bool) : Option T → List T → Bool
  | _, [] => true
  | p, x :: r => q p x && chainL q (some x) r
theorem each_chain {F : Nat → Unit → Option (Lr Unit ρ)} {a b : ρ} (l : List T) (q : Option T → T → Bool) (hs : ∀ k x, k < l.length → el l k = x → F k () = some (bif q (if k = 0 then none else some (el l (k - 1))) x then .go () else .out b)) :
    eachN F (fun _ => a) l.length 0 () = some (bif chainL q none l then a else b) := by
  have h := each_run (F := F) (e := fun _ => a) l (fun _ _ _ => True) (fun r k _ => bif chainL q (if k = 0 then none else some (el l (k - 1))) r then a else b) (fun _ _ => rfl) (fun x r k s hk hx _ => by
    have h1 := hs k x hk hx
    have e1 : (if k + 1 = 0 then none else some (el l (k + 1 - 1))) = some x := by rw [if_neg (by omega), Nat.add_sub_cancel, hx]
    simp only [e1, chainL]
    cases hq : q (if k = 0 then none else some (el l (k - 1))) x with
    | true => exact .inl ⟨(), by rw [h1, hq]; rfl, trivial, by simp⟩
    | false => exact .inr (by rw [h1, hq]; simp)) () trivial
  simpa using h
omit [Inhabited T] in
theorem chain_all {q : Option T → T → Bool} : ∀ {l : List T} {p : Option T}, chainL q p l = true → ∀ x ∈ l, ∃ p, q p x = true
  | [], _, _, _, h => by cases h
  | y :: r, p, h, x, hx => by
    simp only [chainL, Bool.and_eq_true] at h
    rcases List.mem_cons.1 hx with rfl | hx
    · exact ⟨p, h.1⟩
    · exact chain_all h.2 x hx
def prevB (g : T → Bool) : Option T → Bool
  | none => false
  | some p => g p
theorem prevAt (l : List T) (g : T → Bool) {k : Nat} (hl : l.length ≤ 1099511627776) (hk : k < l.length) :
    (bif decide ((0 : Int) < (k : Int)) then (xg (inI ((k : Int) - 1)) <| xg (0 ≤ ((k : Int) - 1) ∧ ((k : Int) - 1) < (l.length : Int)) <| some (g (el l (((k : Int) - 1).toNat)))) else (some false)) = some (prevB g (if k = 0 then none else some (el l (k - 1)))) := by
  cases k with
  | zero => rfl
  | succ k => rw [cd_t (by omega), xg_I (by omega) (by omega), xg_of ⟨by omega, by omega⟩, if_neg (by omega), show (((k + 1 : Nat) : Int) - 1).toNat = k + 1 - 1 by omega, prevB]
def ixOf (p : T → Bool) (l : List T) : Int := if l.any p then (l.findIdx p : Int) else -1
theorem each_ix {F : Nat → σ → Option (Lr σ ρ)} {e : σ → ρ} (l : List T) (p : T → Bool) (s : σ) (g : Int → ρ) (hs : ∀ x k, k < l.length → el l k = x → F k s = some (bif p x then .out (g k) else .go s)) :
    eachN F e l.length 0 s = some (if 0 ≤ ixOf p l then g (ixOf p l) else e s) := by
  have h := each_run (F := F) (e := e) l (fun _ _ s' => s' = s) (fun r k _ => if r.any p then g ((k + r.findIdx p : Nat) : Int) else e s) (fun s' hs' => by rw [hs']; rfl) (fun x r k s' hk hx hs' => by
    subst hs'
    have h1 := hs x k hk hx
    rw [List.any_cons, List.findIdx_cons]
    cases hp : p x with
    | true => exact .inr (by rw [h1, hp]; simp)
    | false =>
      refine .inl ⟨s', by rw [h1, hp]; rfl, rfl, ?_⟩
      simp only [Bool.false_or, cond_false]
      rw [show k + (List.findIdx p r + 1) = k + 1 + List.findIdx p r by omega]) s rfl
  rw [h]
  unfold ixOf
  by_cases ha : l.any p = true
  · rw [if_pos ha, if_pos ha, if_pos (by omega), Nat.zero_add]
  · rw [if_neg ha, if_neg ha, if_neg (by omega)]
omit [Inhabited T] in
theorem ixOf_ge (p : T → Bool) (l : List T) : -1 ≤ ixOf p l := by unfold ixOf; split <;> omega
omit [Inhabited T] in
theorem ixOf_lt (p : T → Bool) (l : List T) : ixOf p l < l.length := by
  unfold ixOf
  split
  · rename_i h
    obtain ⟨x, hx, hp⟩ := List.any_eq_true.1 h
    have := List.findIdx_lt_length_of_exists ⟨x, hx, hp⟩
    omega
  · omega
theorem ixOf_nn {p : T → Bool} {l : List T} (h : 0 ≤ ixOf p l) : (ixOf p l).toNat < l.length ∧ p (el l (ixOf p l).toNat) = true := by
  have hlt := ixOf_lt p l
  refine ⟨by omega, ?_⟩
  unfold ixOf at h ⊢
  by_cases ha : l.any p = true
  · rw [if_pos ha] at h ⊢
    obtain ⟨x, hx, hp⟩ := List.any_eq_true.1 ha
    have hl := List.findIdx_lt_length_of_exists ⟨x, hx, hp⟩
    rw [Int.toNat_natCast, el_eq hl]
    exact List.findIdx_getElem
  · rw [if_neg ha] at h; omega
omit [Inhabited T] in
theorem ixOf_neg {p : T → Bool} {l : List T} : ixOf p l < 0 ↔ ∀ x ∈ l, p x = false := by
  unfold ixOf
  by_cases ha : l.any p = true
  · rw [if_pos ha]
    obtain ⟨x, hx, hp⟩ := List.any_eq_true.1 ha
    constructor
    · intro h; omega
    · intro h; rw [h x hx] at hp; cases hp
  · rw [if_neg ha]
    constructor
    · intro _ x hx
      cases hp : p x with
      | false => rfl
      | true => exact absurd (List.any_eq_true.2 ⟨x, hx, hp⟩) ha
    · intro _; omega
def allI (p : Nat → T → Bool) : Nat → List T → Bool
  | _, [] => true
  | k, x :: r => p k x && allI p (k + 1) r
theorem each_alli {F : Nat → Unit → Option (Lr Unit ρ)} {a b : ρ} (l : List T) (p : Nat → T → Bool) (hs : ∀ x k, k < l.length → el l k = x → F k () = some (bif p k x then .go () else .out b)) :
    eachN F (fun _ => a) l.length 0 () = some (bif allI p 0 l then a else b) :=
  each_run (F := F) (e := fun _ => a) l (fun _ _ _ => True) (fun r k _ => bif allI p k r then a else b) (fun _ _ => rfl) (fun x r k s hk hx _ => by
    have h := hs x k hk hx
    cases hp : p k x with
    | true => exact .inl ⟨(), by rw [h, hp]; rfl, trivial, by simp [allI, hp]⟩
    | false => exact .inr (by rw [h, hp]; simp [allI, hp])) () trivial
theorem allI_iff {p : Nat → T → Bool} : ∀ {l : List T} {k : Nat}, allI p k l = true ↔ ∀ i, i < l.length → p (k + i) (el l i) = true
  | [], k => by simp [allI]
  | x :: r, k => by
    rw [allI, Bool.and_eq_true, allI_iff]
    constructor
    · rintro ⟨h1, h2⟩ i hi
      cases i with
      | zero => exact h1
      | succ i => rw [el_cons_succ, show k + (i + 1) = k + 1 + i by omega]; exact h2 i (by simpa using hi)
    · intro h
      refine ⟨h 0 (by simp), fun i hi => ?_⟩
      have := h (i + 1) (by simpa using hi)
      rwa [el_cons_succ, show k + (i + 1) = k + 1 + i by omega] at this
end
end Go.Proofs.YtjbonmmmcnpjiaaGreatDoor
