/- Numbers as text. No condition. -/
import Derived.Test.YtjbonmmmcnpjiaaGreatDoorMd
import Derived.Test.YtjbonmmmcnpjiaaGreatDoorTX
namespace Go.Proofs.YtjbonmmmcnpjiaaGreatDoor
def baOf (l : List UInt8) : ByteArray := ⟨l.toArray⟩
theorem baOf_app (a b : List UInt8) : baOf a ++ baOf b = baOf (a ++ b) := by
  refine ByteArray.ext ?_
  rw [ByteArray.data_append]
  simp [baOf]
theorem baOf_size (a : List UInt8) : (baOf a).size = a.length := by simp [baOf, ByteArray.size]
theorem t_within (n lo hi : Int) : x_impl_within n lo hi = some (decide (lo ≤ n ∧ n ≤ hi)) := by unfold x_impl_within; simp only [Option.bind_some, cs_, ca_]; refine bsome ?_; simp
theorem t_In (n lo hi : Int) : x_spec_l01In n lo hi = some (decide (lo ≤ n ∧ n ≤ hi)) := by unfold x_spec_l01In; simp only [Option.bind_some, cs_, ca_]; refine bsome ?_; simp
def numT (n : Int) : List UInt8 := if 0 ≤ n ∧ n ≤ 1000000000 then Lib.decDigits n.toNat else []
theorem dd_len (u : Nat) : (Lib.decDigits u).length ≤ u + 1 := by
  induction u using Nat.strongRecOn with
  | _ u ih =>
    rw [Lib.decDigits]
    split
    · simp
    · rename_i h
      have := ih (u / 10) (by omega)
      simp only [List.length_append, List.length_cons, List.length_nil]
      omega
theorem numT_len (n : Int) : (numT n).length ≤ 1000000001 := by
  unfold numT
  split
  · have := dd_len n.toNat; omega
  · simp
theorem i_NumText (n : Int) : x_impl_NumText n = some (baOf (numT n)) := by
  unfold x_impl_NumText numT
  rw [t_within, Option.bind_some]
  by_cases h : 0 ≤ n ∧ n ≤ 1000000000
  · rw [decide_eq_true h, Bool.not_true, cond_false, if_pos h]
    unfold x_Itoa
    rw [xg_I (by omega) (by omega), Option.bind_some]
    unfold Lib.itoa
    rw [if_neg (by omega)]
    rfl
  · rw [decide_eq_false h, Bool.not_false, cond_true, if_neg h]
    rfl
theorem y8_dig (d : Int) (h : 0 ≤ d ∧ d ≤ 9) : y8 (48 + d) = UInt8.ofNat (48 + d.toNat) := by
  unfold y8
  congr 1
  omega
theorem s_NumText (n : Int) : x_spec_NumText n = some (baOf (numT n)) := by
  unfold x_spec_NumText numT
  rw [t_In, Option.bind_some]
  by_cases h : 0 ≤ n ∧ n ≤ 1000000000
  · rw [decide_eq_true h, Bool.not_true, cond_false, if_pos h]
    have hl := dd_len n.toNat
    obtain ⟨y, hy, ⟨l, y1, y2, y3⟩⟩ := iter_ex (f := x_spec_NumText_f0) (fun s => ∃ l, s.2 = baOf l ∧ 0 ≤ s.1 ∧ s.1 ≤ 1000000000 ∧ Lib.decDigits s.1.toNat ++ l = Lib.decDigits n.toNat) (fun s => s.1.toNat)
      (fun y => ∃ l, y.2 = baOf l ∧ (0 ≤ y.1 ∧ y.1 ≤ 9) ∧ Lib.decDigits y.1.toNat ++ l = Lib.decDigits n.toNat) (fun s ⟨l, h1, h2, h3, h4⟩ => by
        unfold x_spec_NumText_f0 x_spec_NumText_b0
        by_cases h9 : 9 < s.1
        · have hd : Lib.decDigits s.1.toNat = Lib.decDigits (s.1 / 10).toNat ++ [UInt8.ofNat (48 + (s.1 % 10).toNat)] := by
            rw [Lib.decDigits, dif_neg (by omega), show (s.1 / 10).toNat = s.1.toNat / 10 by omega, show (s.1 % 10).toNat = s.1.toNat % 10 by omega]
          have hll : l.length ≤ 1000000001 := by
            have := congrArg List.length h4
            rw [List.length_append] at this
            omega
          have e : (⟨[y8 (48 + (s.1 % 10))].toArray⟩ : ByteArray) = baOf [y8 (48 + (s.1 % 10))] := rfl
          rw [decide_eq_true h9, cond_true, xg_of ⟨h2, by omega⟩, xg_I (by omega) (by omega), e, h1, xg_of (by rw [baOf_size, baOf_size]; simp only [List.length_cons, List.length_nil]; omega), xg_of ⟨h2, by omega, by omega⟩]
          refine .inl ⟨_, rfl, ⟨[y8 (48 + (s.1 % 10))] ++ l, by rw [baOf_app], by simp only; omega, by simp only; omega, ?_⟩, by simp only; omega⟩
          rw [hd, List.append_assoc] at h4
          rw [y8_dig _ ⟨by omega, by omega⟩]
          exact h4
        · rw [decide_eq_false h9, cond_false]
          exact .inr ⟨_, rfl, l, h1, ⟨h2, by simp only; omega⟩, h4⟩) (n, (⟨#[]⟩ : ByteArray)) ⟨[], rfl, h.1, h.2, by simp⟩
    have hll : l.length ≤ 1000000001 := by
      have := congrArg List.length y3
      rw [List.length_append] at this
      omega
    have e : (⟨[y8 (48 + y.1)].toArray⟩ : ByteArray) = baOf [y8 (48 + y.1)] := rfl
    rw [hy, Option.bind_some, xg_I (by omega) (by omega), e, y1, xg_of (by rw [baOf_size, baOf_size]; simp only [List.length_cons, List.length_nil]; omega), baOf_app, ← y3, y8_dig _ y2, Lib.decDigits, dif_pos (by omega)]
  · rw [decide_eq_false h, Bool.not_false, cond_true, if_neg h]
    rfl
end Go.Proofs.YtjbonmmmcnpjiaaGreatDoor
