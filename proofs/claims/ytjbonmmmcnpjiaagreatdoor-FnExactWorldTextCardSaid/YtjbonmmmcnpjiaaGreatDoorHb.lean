/- Calls, answers and tasks that are right. No condition. -/
import Derived.Test.YtjbonmmmcnpjiaaGreatDoorHa
import Derived.Test.YtjbonmmmcnpjiaaGreatDoorH2
namespace Go.Proofs.YtjbonmmmcnpjiaaGreatDoor
theorem i_OnDoc (k : Int) : x_impl_OnDoc k = some (decide (1 ≤ k ∧ k ≤ 5)) := by unfold x_impl_OnDoc; rw [i_within]; rfl
theorem s_OnDoc (k : Int) : x_spec_OnDoc k = some (decide (1 ≤ k ∧ k ≤ 5)) := by unfold x_spec_OnDoc; rw [s_In]; rfl
theorem s_Kind (k : Int) : x_spec_l12Kind k = some (decide (1 ≤ k ∧ k ≤ 8)) := by unfold x_spec_l12Kind; rw [s_In]; rfl
def usedC (c : DCall) : DCall :=
  if c.kind = 1 then ⟨c.kind, c.doc, 0, 0, 0, [], c.text⟩
  else if c.kind = 2 then ⟨c.kind, c.doc, c.client, c.seq, c.n, c.o, []⟩
  else if c.kind = 3 then ⟨c.kind, c.doc, 0, 0, c.n, [], []⟩
  else if c.kind = 4 then ⟨c.kind, c.doc, 0, 0, 0, [], []⟩
  else if c.kind = 5 then ⟨c.kind, c.doc, 0, 0, c.n, [], []⟩
  else if c.kind = 6 then ⟨c.kind, ByteArray.empty, c.client, 0, c.n, [], []⟩
  else if c.kind = 7 then ⟨c.kind, ByteArray.empty, c.client, 0, 0, [], []⟩
  else ⟨c.kind, ByteArray.empty, 0, 0, 0, [], []⟩
theorem call_eq (a b : DCall) : (a = b) ↔ ((((((a.kind = b.kind ∧ a.doc = b.doc) ∧ a.client = b.client) ∧ a.seq = b.seq) ∧ a.n = b.n) ∧ a.o = b.o) ∧ a.text = b.text) := by cases a; cases b; simp [and_assoc]
theorem ans_eq (a b : DAnswer) : (a = b) ↔ (((a.code = b.code ∧ a.rev = b.rev) ∧ a.text = b.text) ∧ a.list = b.list) := by cases a; cases b; simp [and_assoc]
theorem kind8 {k : Int} (h : 1 ≤ k ∧ k ≤ 8) : k = 1 ∨ k = 2 ∨ k = 3 ∨ k = 4 ∨ k = 5 ∨ k = 6 ∨ k = 7 ∨ k = 8 := by omega
theorem i_used {c : DCall} (h : 1 ≤ c.kind ∧ c.kind ≤ 8) : x_impl_used c = some (usedC c) := by
  unfold x_impl_used usedC
  rw [i_OnDoc]
  rcases kind8 h with h | h | h | h | h | h | h | h <;> simp [h]
theorem i_CallSame (a b : DCall) : x_impl_CallSame a b = some (decide (a = b)) := by
  unfold x_impl_CallSame
  simp only [i_OpSame, i_Equal, Option.bind_some, cs_, ca_]
  refine bsome ?_
  simp only [Bool.and_eq_true, decide_eq_true_eq]
  exact (call_eq a b).symm
noncomputable def okCall (c : DCall) : Bool := (((decide (1 ≤ c.kind ∧ c.kind ≤ 8) && decide (c.doc.size ≤ 8)) && okParts c.o) && okText c.text) && decide (c = usedC c)
theorem i_CallOk (c : DCall) : x_impl_CallOk c = some (okCall c) := by
  unfold x_impl_CallOk okCall
  rw [i_within, Option.bind_some]
  by_cases h : 1 ≤ c.kind ∧ c.kind ≤ 8
  · rw [i_used h]
    simp only [i_partsOk, i_TextOk, i_CallSame, Option.bind_some, cs_, ca_]
    rw [decide_eq_true h, show decide ((c.doc.size : Int) ≤ 8) = decide (c.doc.size ≤ 8) from decide_eq_decide.2 (by omega)]
  · rw [decide_eq_false h]; rfl
theorem s_CallOk (c : DCall) : x_spec_CallOk c = some (okCall c) := by
  unfold x_spec_CallOk okCall
  rw [s_Kind, Option.bind_some]
  by_cases h : 1 ≤ c.kind ∧ c.kind ≤ 8
  · rw [decide_eq_true h]
    simp only [s_Parts, s_TextOk, s_OnDoc, Option.bind_some, cs_, co_, ca_, cn_, cd_n, Bool.not_true, cd_F]
    refine bsome ?_
    have h8 : ((c.doc.size : Int) ≤ 8) = (c.doc.size ≤ 8) := propext (by omega)
    have he : (⟨#[]⟩ : ByteArray) = ByteArray.empty := rfl
    rcases kind8 h with h | h | h | h | h | h | h | h <;> simp only [he, Bool.and_eq_true, decide_eq_true_eq] <;> simp [h, usedC, call_eq, and_assoc, h8] <;> (intros; constructor <;> intro h <;> simp_all)
  · rw [decide_eq_false h]; rfl
theorem i_EqualE (a b : List DEntry) : x_slices_EqualFunc_impl_Entry_impl_Entry_impl_Entry_impl_Entry a b = some (decide (a = b)) := by
  unfold x_slices_EqualFunc_impl_Entry_impl_Entry_impl_Entry_impl_Entry
  by_cases h : (a.length : Int) = b.length
  · rw [decide_eq_true h, Bool.not_true, cond_false, each_eq a b (by omega) (y := .inr ()) (fun k h1 h2 => by
      unfold x_slices_EqualFunc_impl_Entry_impl_Entry_impl_Entry_impl_Entry_f0 x_slices_EqualFunc_impl_Entry_impl_Entry_impl_Entry_impl_Entry_b0
      rw [xg_of ⟨by omega, by omega⟩, i_EntrySame, Option.bind_some]; cases decide (el a k = el b k) <;> rfl), Option.bind_some]
    cases decide (a = b) <;> rfl
  · rw [decide_eq_false h, decide_eq_false (p := a = b) fun e => h (by rw [e])]; rfl
theorem i_AnswerSame (a b : DAnswer) : x_impl_AnswerSame a b = some (decide (a = b)) := by
  unfold x_impl_AnswerSame
  simp only [i_EqualE, i_Equal, Option.bind_some, cs_, ca_]
  refine bsome ?_
  simp only [Bool.and_eq_true, decide_eq_true_eq]
  exact (ans_eq a b).symm
theorem s_AnswerSame (a b : DAnswer) : x_spec_AnswerSame a b = some (decide (a = b)) := by
  unfold x_spec_AnswerSame
  simp only [s_SignsSame, Option.bind_some, cs_, co_]
  by_cases h : ((a.code = b.code ∧ a.rev = b.rev) ∧ a.text = b.text) ∧ (a.list.length : Int) = b.list.length
  · rw [decide_eq_true h.1.1.1, decide_eq_true h.1.1.2, decide_eq_true h.1.2, decide_eq_true h.2]
    simp only [Bool.not_true, Bool.or_false, cond_false]
    rw [each_eq a.list b.list (by omega) (y := .inr ()) (fun k h1 h2 => by
      unfold x_spec_AnswerSame_f0 x_spec_AnswerSame_b0
      rw [xg_of ⟨by omega, by omega⟩, s_EntrySame, Option.bind_some]; cases decide (el a.list k = el b.list k) <;> rfl), Option.bind_some]
    have : decide (a = b) = decide (a.list = b.list) := decide_eq_decide.2 ((ans_eq a b).trans ⟨fun h => h.2, fun h2 => ⟨h.1, h2⟩⟩)
    rw [this]
    cases decide (a.list = b.list) <;> rfl
  · rw [decide_eq_false (p := a = b) fun e => h (by subst e; simp)]
    have : (((!decide (a.code = b.code) || !decide (a.rev = b.rev)) || !decide (a.text = b.text)) || !decide ((a.list.length : Int) = b.list.length)) = true := by
      simp only [Bool.or_eq_true, Bool.not_eq_true', decide_eq_false_iff_not]
      refine Classical.byContradiction fun hn => h ?_
      simp only [not_or, Classical.not_not] at hn
      exact hn
    rw [this]; rfl
def ans0 : DAnswer := ⟨0, 0, [], []⟩
def ansB : DAnswer := ⟨11, 0, [], []⟩
def taskP (t : DTask) : Prop :=
  ((t.pc = 0 ∨ (t.pc = 1 ∧ 1 ≤ t.c.kind ∧ t.c.kind ≤ 5) ∨ (t.pc = 2 ∧ t.c.kind = 2)) ∧ t.lin = -1 ∧ t.res = -1 ∧ t.a = ans0) ∨
  ((t.pc = 3 ∨ t.pc = 4) ∧ (((t.a = ansB ∧ t.c.kind = 2) ∧ t.lin = -1) ∨ (t.inv ≤ t.lin ∧ t.lin ≤ 1000000)) ∧ ((t.pc = 3 ∧ t.res = -1) ∨ (t.pc = 4 ∧ max t.inv t.lin ≤ t.res ∧ t.res ≤ 1000000)))
instance (t : DTask) : Decidable (taskP t) := inferInstanceAs (Decidable (_ ∨ _))
noncomputable def okTask (t : DTask) : Bool := (okCall t.c && decide (0 ≤ t.inv ∧ t.inv ≤ 1000000)) && decide (taskP t)
theorem i_TaskOk (t : DTask) : x_impl_TaskOk t = some (okTask t) := by
  unfold x_impl_TaskOk okTask
  rw [i_CallOk, Option.bind_some]
  simp only [i_within, i_OnDoc, i_AnswerSame, Option.bind_some, cs_, co_, ca_, cn_, cm_, cd_n]
  by_cases hc : okCall t.c = true ∧ 0 ≤ t.inv ∧ t.inv ≤ 1000000
  · rw [hc.1, decide_eq_true hc.2]
    simp only [Bool.not_true, Bool.or_self, Bool.and_self, Bool.true_and]
    by_cases h5 : 0 ≤ t.pc ∧ t.pc ≤ 4
    · rcases (show t.pc = 0 ∨ t.pc = 1 ∨ t.pc = 2 ∨ t.pc = 3 ∨ t.pc = 4 by omega) with h | h | h | h | h
      all_goals simp only [h, taskP, ans0, ansB]
      all_goals simp [Bool.and_assoc]
    · have e0 : ¬ t.pc = 0 := by omega
      have e1 : ¬ t.pc = 1 := by omega
      have e2 : ¬ t.pc = 2 := by omega
      have e3 : ¬ t.pc = 3 := by omega
      have e4 : ¬ t.pc = 4 := by omega
      simp [e0, e1, e2, e3, e4, taskP]
  · have : (!okCall t.c || !decide (0 ≤ t.inv ∧ t.inv ≤ 1000000)) = true := by
      simp only [Bool.or_eq_true, Bool.not_eq_true', decide_eq_false_iff_not]
      cases h : okCall t.c with
      | false => exact .inl rfl
      | true => exact .inr fun h2 => hc ⟨h, h2⟩
    rw [this, show (okCall t.c && decide (0 ≤ t.inv ∧ t.inv ≤ 1000000)) = false by rw [Bool.and_eq_false_iff]; rw [Bool.or_eq_true] at this; rwa [Bool.not_eq_true', Bool.not_eq_true'] at this]
    simp
theorem s_TaskOk (t : DTask) : x_spec_TaskOk t = some (okTask t) := by
  unfold x_spec_TaskOk okTask
  rw [s_CallOk, Option.bind_some]
  simp only [s_In, s_OnDoc, s_AnswerSame, Option.bind_some, cs_, co_, ca_, cn_, cm_, cd_n]
  by_cases hc : okCall t.c = true ∧ 0 ≤ t.inv ∧ t.inv ≤ 1000000
  · rw [hc.1, decide_eq_true hc.2]
    simp only [Bool.not_true, Bool.or_self, Bool.false_or, Bool.and_self, Bool.true_and]
    by_cases h5 : 0 ≤ t.pc ∧ t.pc ≤ 4
    · rw [decide_eq_true h5]
      rcases (show t.pc = 0 ∨ t.pc = 1 ∨ t.pc = 2 ∨ t.pc = 3 ∨ t.pc = 4 by omega) with h | h | h | h | h
      all_goals simp only [h, taskP, ans0, ansB]
      all_goals simp [Bool.and_assoc]
      have em : (max t.inv t.lin ≤ t.res) ↔ (t.lin ≤ t.res ∧ t.inv ≤ t.res) := by omega
      simp only [em, Bool.decide_and]
      congr 1
      cases decide (t.inv ≤ t.res) <;> cases decide (t.lin ≤ t.res) <;> simp
    · have e0 : ¬ t.pc = 0 := by omega
      have e1 : ¬ t.pc = 1 := by omega
      have e2 : ¬ t.pc = 2 := by omega
      have e3 : ¬ t.pc = 3 := by omega
      have e4 : ¬ t.pc = 4 := by omega
      rw [decide_eq_false h5]
      simp [e0, e1, e2, e3, e4, taskP]
  · have : (!okCall t.c || !decide (0 ≤ t.inv ∧ t.inv ≤ 1000000)) = true := by
      simp only [Bool.or_eq_true, Bool.not_eq_true', decide_eq_false_iff_not]
      cases h : okCall t.c with
      | false => exact .inl rfl
      | true => exact .inr fun h2 => hc ⟨h, h2⟩
    rw [this, show (okCall t.c && decide (0 ≤ t.inv ∧ t.inv ≤ 1000000)) = false by rw [Bool.and_eq_false_iff]; rw [Bool.or_eq_true] at this; rwa [Bool.not_eq_true', Bool.not_eq_true'] at this]
    simp
end Go.Proofs.YtjbonmmmcnpjiaaGreatDoor
