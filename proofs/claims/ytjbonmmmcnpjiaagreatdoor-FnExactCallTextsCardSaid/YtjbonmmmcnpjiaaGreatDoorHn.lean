/- Names that are right. No condition. -/
import Derived.Test.YtjbonmmmcnpjiaaGreatDoorMn
import Derived.Test.YtjbonmmmcnpjiaaGreatDoorG9
namespace Go.Proofs.YtjbonmmmcnpjiaaGreatDoor
noncomputable def okName (s : ByteArray) : Bool := (x_impl_NameOk s).getD false
theorem i_NameOk (s : ByteArray) (hs : s.size ≤ 9223372036854775807) : x_impl_NameOk s = some (okName s) := by
  have key : ∃ b, x_impl_NameOk s = some b := by
    unfold x_impl_NameOk
    obtain ⟨y, h1, _⟩ := iter_ex (f := x_impl_NameOk_f0 s) (fun i => 0 ≤ i ∧ i ≤ s.size) (fun i => ((s.size : Int) - i).toNat) (fun _ => True) (fun i hP => by
      unfold x_impl_NameOk_f0 x_impl_NameOk_b0
      by_cases hi : i < (s.size : Int)
      · rw [cd_t hi, xg_of ⟨hP.1, hi⟩, xg_of ⟨hP.1, hi⟩, cs_, Option.bind_some]
        cases (bif decide (((sget s i.toNat).toNat : Int) < 97) then true else decide ((122 : Int) < ((sget s i.toNat).toNat : Int))) with
        | true => exact .inr ⟨_, rfl, trivial⟩
        | false => rw [cd_F, xg_I (by omega) (by omega)]; exact .inl ⟨_, rfl, ⟨by omega, by omega⟩, by omega⟩
      · rw [cd_f hi]; exact .inr ⟨_, rfl, trivial⟩) 0 ⟨by omega, by omega⟩
    rw [h1, Option.bind_some]
    cases y with
    | inl u => simp only [Sum.elim_inl]; rw [i_within]; exact ⟨_, rfl⟩
    | inr u => exact ⟨_, rfl⟩
  obtain ⟨b, hb⟩ := key
  unfold okName
  rw [hb]; rfl
theorem s_NameOk (s : ByteArray) (hs : s.size ≤ 9223372036854775807) : x_spec_NameOk s = some (okName s) := by
  have h := i_NameOk s hs
  have hf : x_spec_NameOk_f0 = x_impl_NameOk_f0 := rfl
  unfold x_impl_NameOk at h
  unfold x_spec_NameOk
  rw [hf]
  simp only [s_In]
  simp only [i_within] at h
  exact h
end Go.Proofs.YtjbonmmmcnpjiaaGreatDoor
