/- Locks of stripes: going from task to task gives the table that is right. No condition. -/
import Derived.Test.YtjbonmmmcnpjiaaGreatDoorHz
namespace Go.Proofs.YtjbonmmmcnpjiaaGreatDoor
def lockIn : Nat → List Int → List (Option Nat) → Option (List Int)
  | _, h, [] => some h
  | k, h, none :: r => lockIn (k + 1) h r
  | k, h, some s :: r => if el h s = -1 then lockIn (k + 1) (h.set s k) r else none
def lkA (h : List Int) (l : List (Option Nat)) : Prop := ∀ s, s < h.length → el h s = -1 ∨ ∃ j : Nat, el h s = (j : Int) ∧ l[j]? = some (some s)
def lkB (h : List Int) (l : List (Option Nat)) : Prop := ∀ j s : Nat, l[j]? = some (some s) → el h s = (j : Int)
theorem lock_to {n : Nat} : ∀ (r pre : List (Option Nat)) (h h' : List Int), (∀ s, some s ∈ r → s < n) → h.length = n → lkA h pre → lkB h pre → lockIn pre.length h r = some h' → h'.length = n ∧ lkA h' (pre ++ r) ∧ lkB h' (pre ++ r)
  | [], pre, h, h', _, hl, hA, hB, he => by
    obtain rfl : h = h' := Option.some.inj he
    rw [List.append_nil]
    exact ⟨hl, hA, hB⟩
  | none :: r, pre, h, h', hs, hl, hA, hB, he => by
    have hA' : lkA h (pre ++ [none]) := fun s hs => (hA s hs).imp id fun ⟨j, h1, h2⟩ => ⟨j, h1, by rw [List.getElem?_append_left (List.getElem?_eq_some_iff.1 h2).1]; exact h2⟩
    have hB' : lkB h (pre ++ [none]) := fun j s hj => hB j s (by
      by_cases hlt : j < pre.length
      · rwa [List.getElem?_append_left hlt] at hj
      · rw [List.getElem?_append_right (by omega)] at hj
        rcases Nat.eq_or_lt_of_le (Nat.le_of_not_lt hlt) with e | e
        · rw [← e] at hj; simp at hj
        · rw [List.getElem?_eq_none (by simp; omega)] at hj; cases hj)
    have := lock_to r (pre ++ [none]) h h' (fun s hs' => hs s (List.mem_cons_of_mem _ hs')) hl hA' hB' (by rw [List.length_append]; exact he)
    rwa [List.append_assoc] at this
  | some s0 :: r, pre, h, h', hs, hl, hA, hB, he => by
    have hs0 : s0 < n := hs s0 (List.mem_cons_self ..)
    rw [lockIn] at he
    by_cases hc : el h s0 = -1
    · rw [if_pos hc] at he
      have hA' : lkA (h.set s0 pre.length) (pre ++ [some s0]) := fun s hq => by
        rw [List.length_set] at hq
        by_cases e : s = s0
        · subst e
          exact .inr ⟨pre.length, el_set hq, by simp⟩
        · rw [el_set_ne (fun x => e x.symm)]
          exact (hA s hq).imp id fun ⟨j, h1, h2⟩ => ⟨j, h1, by rw [List.getElem?_append_left (List.getElem?_eq_some_iff.1 h2).1]; exact h2⟩
      have hB' : lkB (h.set s0 pre.length) (pre ++ [some s0]) := fun j s hj => by
        by_cases hlt : j < pre.length
        · rw [List.getElem?_append_left hlt] at hj
          have hne : s0 ≠ s := fun e => by
            have := hB j s hj
            rw [← e, hc] at this
            omega
          rw [el_set_ne hne]
          exact hB j s hj
        · rw [List.getElem?_append_right (by omega)] at hj
          rcases Nat.eq_or_lt_of_le (Nat.le_of_not_lt hlt) with e | e
          · subst e
            obtain rfl : s0 = s := by simpa using hj
            exact el_set (by omega)
          · rw [List.getElem?_eq_none (by simp; omega)] at hj; cases hj
      have := lock_to r (pre ++ [some s0]) _ h' (fun s hs' => hs s (List.mem_cons_of_mem _ hs')) (by rw [List.length_set]; exact hl) hA' hB' (by rw [List.length_append]; exact he)
      rwa [List.append_assoc] at this
    · rw [if_neg hc] at he; cases he
theorem lock_ex {n : Nat} {L : List Int} (hL : L.length = n) : ∀ (r pre : List (Option Nat)) (h : List Int), (∀ s, some s ∈ pre ++ r → s < n) → h.length = n → lkA h pre → lkB h pre → lkB L (pre ++ r) → ∃ h', lockIn pre.length h r = some h'
  | [], pre, h, _, _, _, _, _ => ⟨h, rfl⟩
  | none :: r, pre, h, hs, hl, hA, hB, hLB => by
    have hA' : lkA h (pre ++ [none]) := fun s hs => (hA s hs).imp id fun ⟨j, h1, h2⟩ => ⟨j, h1, by rw [List.getElem?_append_left (List.getElem?_eq_some_iff.1 h2).1]; exact h2⟩
    have hB' : lkB h (pre ++ [none]) := fun j s hj => hB j s (by
      by_cases hlt : j < pre.length
      · rwa [List.getElem?_append_left hlt] at hj
      · rw [List.getElem?_append_right (by omega)] at hj
        rcases Nat.eq_or_lt_of_le (Nat.le_of_not_lt hlt) with e | e
        · rw [← e] at hj; simp at hj
        · rw [List.getElem?_eq_none (by simp; omega)] at hj; cases hj)
    have := lock_ex hL r (pre ++ [none]) h (by rwa [List.append_assoc]) hl hA' hB' (by rwa [List.append_assoc])
    rwa [List.length_append] at this
  | some s0 :: r, pre, h, hs, hl, hA, hB, hLB => by
    have hs0 : s0 < n := hs s0 (by simp)
    have hc : el h s0 = -1 := by
      rcases hA s0 (by omega) with h1 | ⟨j, _, h2⟩
      · exact h1
      · have hj := (List.getElem?_eq_some_iff.1 h2).1
        have e1 := hLB j s0 (by rw [List.getElem?_append_left hj]; exact h2)
        have e2 := hLB pre.length s0 (by simp)
        omega
    rw [lockIn, if_pos hc]
    have hstep := lock_to (n := n) [some s0] pre h (h.set s0 pre.length) (fun s hs' => hs s (by simp only [List.mem_append, List.mem_cons, List.not_mem_nil, or_false] at hs' ⊢; exact .inr (.inl hs'))) hl hA hB (by rw [lockIn, if_pos hc]; rfl)
    have := lock_ex hL r (pre ++ [some s0]) _ (by rwa [List.append_assoc]) hstep.1 hstep.2.1 hstep.2.2 (by rwa [List.append_assoc])
    rwa [List.length_append] at this
theorem lock_uniq {h L : List Int} {l : List (Option Nat)} (hl : h.length = L.length) (a : lkA h l) (b : lkB h l) (c : lkA L l) (d : lkB L l) : h = L := by
  refine List.ext_getElem hl fun s h1 h2 => ?_
  rw [← el_eq h1, ← el_eq h2]
  rcases a s h1 with e | ⟨j, e, hj⟩
  · rcases c s h2 with e2 | ⟨j, _, hj⟩
    · rw [e, e2]
    · have := b j s hj
      omega
  · rw [e]; exact (d j s hj).symm
theorem lock_iff {n : Nat} {L : List Int} {l : List (Option Nat)} (hL : L.length = n) (hs : ∀ s, some s ∈ l → s < n) : lockIn 0 (List.replicate n (-1)) l = some L ↔ lkA L l ∧ lkB L l := by
  have hA0 : lkA (List.replicate n (-1 : Int)) [] := fun s h => .inl (el_rep (by simpa using h))
  have hB0 : lkB (List.replicate n (-1 : Int)) [] := fun j s h => by simp at h
  constructor
  · intro h
    exact (lock_to l [] _ L hs (by simp) hA0 hB0 h).2
  · rintro ⟨hA, hB⟩
    obtain ⟨h', h1⟩ := lock_ex hL l [] _ hs (by simp) hA0 hB0 hB
    have h2 := lock_to l [] _ h' hs (by simp) hA0 hB0 h1
    rw [show lockIn 0 (List.replicate n (-1)) l = some h' from h1, lock_uniq (by rw [h2.1, hL]) h2.2.1 h2.2.2 hA hB]
end Go.Proofs.YtjbonmmmcnpjiaaGreatDoor
