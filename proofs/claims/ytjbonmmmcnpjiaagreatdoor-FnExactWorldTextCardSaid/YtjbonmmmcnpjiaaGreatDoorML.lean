/- The words for a task. No condition. -/
import Derived.Test.YtjbonmmmcnpjiaaGreatDoorMc
import Derived.Test.YtjbonmmmcnpjiaaGreatDoorOp
import Derived.Test.YtjbonmmmcnpjiaaGreatDoorT1
namespace Go.Proofs.YtjbonmmmcnpjiaaGreatDoor

theorem el_in {l : List ByteArray} {i : Nat} (h : i < l.length) (hl : ∀ x ∈ l, x.size ≤ 100) : (el l i).size ≤ 100 := hl _ (el_mem h)
theorem n_Cl (k : Int) : ∃ s, x_impl_ClName k = some s ∧ x_spec_ClName k = some s ∧ s.size ≤ 100 := by
  unfold x_impl_ClName x_spec_ClName x_spec_l12Kind
  rw [i_within, s_In]
  simp only [Option.bind_some]
  by_cases h : 1 ≤ k ∧ k ≤ 8
  · obtain ⟨n, rfl⟩ : ∃ n : Nat, k = (n : Int) + 1 := ⟨(k - 1).toNat, by omega⟩
    rw [decide_eq_true h, Bool.not_true, cd_F, cd_F, xg_I (by omega) (by omega), xg_of ⟨by omega, by show (n : Int) + 1 - 1 < 8; omega⟩, xg_of ⟨by omega, by show (n : Int) + 1 < 9; omega⟩]
    rw [show ((n : Int) + 1 - 1).toNat = n by omega, show ((n : Int) + 1).toNat = n + 1 by omega]
    exact ⟨_, rfl, rfl, el_in (by show n < 8; omega) (by decide)⟩
  · rw [decide_eq_false h]
    exact ⟨_, rfl, rfl, by decide⟩
theorem n_Pc (k : Int) : ∃ s, x_impl_PcName k = some s ∧ x_spec_PcName k = some s ∧ s.size ≤ 100 := by
  unfold x_impl_PcName x_spec_PcName
  rw [i_within, s_In]
  simp only [Option.bind_some]
  by_cases h : 0 ≤ k ∧ k ≤ 4
  · obtain ⟨n, rfl⟩ := Int.eq_ofNat_of_zero_le h.1
    rw [decide_eq_true h, Bool.not_true, cd_F, xg_of ⟨by omega, by show (n : Int) < 5; omega⟩]
    exact ⟨_, rfl, rfl, el_in (by show (n : Int).toNat < 5; omega) (by decide)⟩
  · rw [decide_eq_false h]
    exact ⟨_, rfl, rfl, by decide⟩
theorem n_Ot (k : Int) : ∃ s, x_impl_OtName k = some s ∧ x_spec_OtName k = some s ∧ s.size ≤ 100 := by
  unfold x_impl_OtName x_spec_OtName
  rw [i_within, s_In]
  simp only [Option.bind_some]
  by_cases h : 0 ≤ k ∧ k ≤ 12
  · obtain ⟨n, rfl⟩ := Int.eq_ofNat_of_zero_le h.1
    rw [decide_eq_true h, Bool.not_true, cd_F, xg_of ⟨by omega, by show (n : Int) < 13; omega⟩]
    exact ⟨_, rfl, rfl, el_in (by show (n : Int).toNat < 13; omega) (by decide)⟩
  · rw [decide_eq_false h]
    exact ⟨_, rfl, rfl, by decide⟩
theorem n_Task (t : DTask) : ∃ r, x_spec_TaskText t = some r ∧ x_impl_TaskText t = some r ∧ r.size ≤ 1000 := by
  obtain ⟨a, a1, a2, a3⟩ := n_Cl t.c.kind
  obtain ⟨b, b1, b2, b3⟩ := n_Pc t.pc
  obtain ⟨c, c1, c2, c3⟩ := n_Ot t.a.code
  have z : (⟨#[32]⟩ : ByteArray).size = 1 := rfl
  obtain ⟨q, hq⟩ : ∃ q : Bool, (bif decide (t.pc = 3) then (some true) else (some (decide (t.pc = 4)))) = some q := by
    cases decide (t.pc = 3)
    · exact ⟨_, rfl⟩
    · exact ⟨_, rfl⟩
  refine ⟨bif q then (((a ++ ⟨#[32]⟩) ++ b) ++ (⟨#[32]⟩ ++ c)) else ((a ++ ⟨#[32]⟩) ++ b), ?_, ?_, ?_⟩
  · unfold x_spec_TaskText
    rw [a2, Option.bind_some, xg_of (by rw [z]; omega), b2, Option.bind_some, xg_of (by rw [ByteArray.size_append, z]; omega), hq, Option.bind_some]
    cases q with
    | false => rfl
    | true =>
      rw [cd_T, cd_T, xg_of (by simp only [ByteArray.size_append, z]; omega), c2, Option.bind_some, xg_of (by simp only [ByteArray.size_append, z]; omega)]
      simp only [ByteArray.append_assoc]
  · unfold x_impl_TaskText
    rw [a1, Option.bind_some, xg_of (by rw [z]; omega), b1, Option.bind_some, xg_of (by rw [ByteArray.size_append, z]; omega), hq, Option.bind_some]
    cases q with
    | false => rfl
    | true =>
      rw [cd_T, cd_T, c1, Option.bind_some, xg_of (by rw [z]; omega), xg_of (by simp only [ByteArray.size_append, z]; omega)]
  · cases q <;> simp only [cond_true, cond_false, ByteArray.size_append, z] <;> omega
end Go.Proofs.YtjbonmmmcnpjiaaGreatDoor
