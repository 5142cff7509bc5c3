/- Calls that are right. No condition. -/
import Derived.Test.YtjbonmmmcnpjiaaGreatDoorMn
import Derived.Test.YtjbonmmmcnpjiaaGreatDoorH2
namespace Go.Proofs.YtjbonmmmcnpjiaaGreatDoor
theorem i_OnDoc (k : Int) : x_impl_OnDoc k = some (decide (1 ≤ k ∧ k ≤ 5)) := by unfold x_impl_OnDoc; rw [i_within]; rfl
theorem s_OnDoc (k : Int) : x_spec_OnDoc k = some (decide (1 ≤ k ∧ k ≤ 5)) := by unfold x_spec_OnDoc; rw [s_In]; rfl
theorem s_Kind (k : Int) : x_spec_l12Kind k = some (decide (1 ≤ k ∧ k ≤ 8)) := by unfold x_spec_l12Kind; rw [s_In]; rfl
def usedC (c : DCall) : DCall :=
  if c.kind = 1 then ⟨c.kind, c.doc, 0, 0, 0, [], c.text⟩
  else if c.kind = 2 then ⟨c.kind, c.doc, c.client, c.seq, c.n, c.o, []⟩
  else if c.kind = 3 then ⟨c.kind, c.doc, 0, 0, c.n, [], []⟩
  else if c.kind = 4 then ⟨c.kind, c.doc, 0, 0, 0, [], []⟩
  else if c.kind = 5 then ⟨c.kind, c.doc, 0, 0, c.n, [], []⟩
  else if c.kind = 6 then ⟨c.kind, ByteArray.empty, c.client, 0, c.n, [], []⟩
  else if c.kind = 7 then ⟨c.kind, ByteArray.empty, c.client, 0, 0, [], []⟩
  else ⟨c.kind, ByteArray.empty, 0, 0, 0, [], []⟩
theorem call_eq (a b : DCall) : (a = b) ↔ ((((((a.kind = b.kind ∧ a.doc = b.doc) ∧ a.client = b.client) ∧ a.seq = b.seq) ∧ a.n = b.n) ∧ a.o = b.o) ∧ a.text = b.text) := by cases a; cases b; simp [and_assoc]
theorem kind8 {k : Int} (h : 1 ≤ k ∧ k ≤ 8) : k = 1 ∨ k = 2 ∨ k = 3 ∨ k = 4 ∨ k = 5 ∨ k = 6 ∨ k = 7 ∨ k = 8 := by omega
theorem i_used {c : DCall} (h : 1 ≤ c.kind ∧ c.kind ≤ 8) : x_impl_used c = some (usedC c) := by
  unfold x_impl_used usedC
  rw [i_OnDoc]
  rcases kind8 h with h | h | h | h | h | h | h | h <;> simp [h]
theorem i_CallSame (a b : DCall) : x_impl_CallSame a b = some (decide (a = b)) := by
  unfold x_impl_CallSame
  simp only [i_OpSame, i_Equal, Option.bind_some, cs_, ca_]
  refine bsome ?_
  simp only [Bool.and_eq_true, decide_eq_true_eq]
  exact (call_eq a b).symm
noncomputable def okCall (c : DCall) : Bool := (((decide (1 ≤ c.kind ∧ c.kind ≤ 8) && decide (c.doc.size ≤ 8)) && okParts c.o) && okText c.text) && decide (c = usedC c)
theorem i_CallOk (c : DCall) : x_impl_CallOk c = some (okCall c) := by
  unfold x_impl_CallOk okCall
  rw [i_within, Option.bind_some]
  by_cases h : 1 ≤ c.kind ∧ c.kind ≤ 8
  · rw [i_used h]
    simp only [i_partsOk, i_TextOk, i_CallSame, Option.bind_some, cs_, ca_]
    rw [decide_eq_true h, show decide ((c.doc.size : Int) ≤ 8) = decide (c.doc.size ≤ 8) from decide_eq_decide.2 (by omega)]
  · rw [decide_eq_false h]; rfl
theorem s_CallOk (c : DCall) : x_spec_CallOk c = some (okCall c) := by
  unfold x_spec_CallOk okCall
  rw [s_Kind, Option.bind_some]
  by_cases h : 1 ≤ c.kind ∧ c.kind ≤ 8
  · rw [decide_eq_true h]
    simp only [s_Parts, s_TextOk, s_OnDoc, Option.bind_some, cs_, co_, ca_, cn_, cd_n, Bool.not_true, cd_F]
    refine bsome ?_
    have h8 : ((c.doc.size : Int) ≤ 8) = (c.doc.size ≤ 8) := propext (by omega)
    have he : (⟨#[]⟩ : ByteArray) = ByteArray.empty := rfl
    rcases kind8 h with h | h | h | h | h | h | h | h <;> simp only [he, Bool.and_eq_true, decide_eq_true_eq] <;> simp [h, usedC, call_eq, and_assoc, h8] <;> (intros; constructor <;> intro h <;> simp_all)
  · rw [decide_eq_false h]; rfl
end Go.Proofs.YtjbonmmmcnpjiaaGreatDoor
