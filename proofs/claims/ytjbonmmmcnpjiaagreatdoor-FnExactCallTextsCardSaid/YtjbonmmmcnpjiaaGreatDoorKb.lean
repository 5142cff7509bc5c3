/- Calls as text. No condition. -/
import Derived.Test.YtjbonmmmcnpjiaaGreatDoorKa
import Derived.Test.YtjbonmmmcnpjiaaGreatDoorHn
import Derived.Test.YtjbonmmmcnpjiaaGreatDoorHq
import Derived.Test.YtjbonmmmcnpjiaaGreatDoorH4
namespace Go.Proofs.YtjbonmmmcnpjiaaGreatDoor
def clT (k : Int) : List UInt8 := if k = 1 then [111, 112, 101, 110] else if k = 2 then [115, 117, 98, 109, 105, 116] else if k = 3 then [102, 101, 116, 99, 104] else if k = 4 then [115, 110, 97, 112] else if k = 5 then [115, 117, 98] else if k = 6 then [112, 111, 108, 108] else if k = 7 then [114, 101, 115, 121, 110, 99] else if k = 8 then [115, 104, 117, 116] else []
theorem clT_no {k : Int} (h : ¬ (1 ≤ k ∧ k ≤ 8)) : clT k = [] := by
  unfold clT
  rw [if_neg (by omega), if_neg (by omega), if_neg (by omega), if_neg (by omega), if_neg (by omega), if_neg (by omega), if_neg (by omega), if_neg (by omega)]
theorem clT_len (k : Int) : (clT k).length ≤ 6 := by
  by_cases h : 1 ≤ k ∧ k ≤ 8
  · rcases kind8 h with h | h | h | h | h | h | h | h <;> subst h <;> decide
  · rw [clT_no h]; simp
theorem i_ClName (k : Int) : x_impl_ClName k = some (baOf (clT k)) := by
  unfold x_impl_ClName
  rw [i_within, Option.bind_some]
  by_cases h : 1 ≤ k ∧ k ≤ 8
  · rw [decide_eq_true h, Bool.not_true, cond_false]
    rcases kind8 h with h | h | h | h | h | h | h | h <;> subst h <;> rfl
  · rw [decide_eq_false h, clT_no h]; rfl
theorem s_ClName (k : Int) : x_spec_ClName k = some (baOf (clT k)) := by
  unfold x_spec_ClName
  rw [s_Kind, Option.bind_some]
  by_cases h : 1 ≤ k ∧ k ≤ 8
  · rw [decide_eq_true h, Bool.not_true, cond_false]
    rcases kind8 h with h | h | h | h | h | h | h | h <;> subst h <;> rfl
  · rw [decide_eq_false h, clT_no h]; rfl
theorem ba_doc (s : ByteArray) : s = baOf s.data.toList := by unfold baOf; rw [Array.toArray_toList]
theorem s_l19Join (l : List ByteArray) (m : Nat) (hm : ∀ x ∈ l, x.size ≤ m) (hl : (m + 1) * l.length ≤ 1000000000) : x_spec_l19Join l = some (baOf (Lib.join (l.map (·.data.toList)) [32])) := by
  unfold x_spec_l19Join
  have hb (x : ByteArray) : baOf x.data.toList = x := (ba_doc x).symm
  have hz (x : ByteArray) : x.data.toList.length = x.size := rfl
  rw [text_loop l (·.data.toList) [32] m (Nat.le_refl 1) (fun x hx => by rw [hz]; exact hm x hx) (fun x k s hk hx hmm hs _ hz0 => by
    unfold x_spec_l19Join_f0 x_spec_l19Join_b0
    have h10 := hm x hmm
    have hkl : (m + 1) * 1 ≤ (m + 1) * l.length := Nat.mul_le_mul_left _ (by omega)
    rw [hx, show (⟨#[32]⟩ : ByteArray) = baOf [32] from rfl]
    by_cases h : (0 : Int) < (k : Int)
    · rw [cd_t h, if_neg (by omega), xg_of (by rw [baOf_size, baOf_size]; simp only [List.length_singleton]; omega), baOf_app, xg_of (by rw [baOf_size, List.length_append]; simp only [List.length_singleton]; omega)]
      conv => lhs; rw [← hb x]
      rw [baOf_app, List.append_assoc]
    · rw [cd_f h, if_pos (by omega), xg_of (by rw [baOf_size]; omega)]
      conv => lhs; rw [← hb x]
      rw [baOf_app]; rfl)]
  rfl
def callW (c : DCall) : List (List UInt8) :=
  [clT c.kind] ++ (if c.kind ≤ 5 then [c.doc.data.toList] else []) ++ (if c.kind = 2 ∨ c.kind = 6 ∨ c.kind = 7 then [numT c.client] else []) ++ (if c.kind = 2 then [numT c.seq] else [])
    ++ (if c.kind = 2 ∨ c.kind = 3 ∨ c.kind = 5 ∨ c.kind = 6 then [numT c.n] else []) ++ (if c.kind = 2 then [wordT c.o] else []) ++ (if c.kind = 1 then [signT c.text] else [])
noncomputable def goodC (c : DCall) : Bool := (((((okCall c && okOp c.o) && (!(decide (1 ≤ c.kind ∧ c.kind ≤ 5)) || okName c.doc)) && decide (0 ≤ c.client ∧ c.client ≤ 1000000000)) && decide (0 ≤ c.seq ∧ c.seq ≤ 1000000000)) && decide (0 ≤ c.n ∧ c.n ≤ 1000000000))
noncomputable def callT (c : DCall) : List UInt8 := if goodC c then Lib.join (callW c) [32] else []
theorem okCall_get {c : DCall} (h : okCall c = true) : (1 ≤ c.kind ∧ c.kind ≤ 8) ∧ c.doc.size ≤ 8 ∧ c.text.length ≤ 200 := by
  unfold okCall okText at h
  simp only [Bool.and_eq_true, decide_eq_true_eq] at h
  exact ⟨h.1.1.1.1, h.1.1.1.2, h.1.2.1⟩
theorem okCall_no {c : DCall} (h : okCall c = false) : callT c = [] := by unfold callT goodC; rw [h]; rfl
theorem signT_len {l : List Int} (h : l.length ≤ 200) : (signT l).length ≤ 2200 := by
  have := dotL_len l
  unfold signT
  split
  · split
    · simp
    · omega
  · simp
theorem wordT_len (o : List DPart) : (wordT o).length ≤ 20000 := by unfold wordT; rw [List.length_map]; exact opT_len o
theorem callW_len {c : DCall} (h : okCall c = true) : (callW c).length ≤ 7 ∧ ∀ x ∈ callW c, x.length ≤ 20000 := by
  obtain ⟨_, h2, h3⟩ := okCall_get h
  have a1 := clT_len c.kind
  have a2 := numT_10 c.client
  have a3 := numT_10 c.seq
  have a4 := numT_10 c.n
  have a5 := wordT_len c.o
  have a6 := signT_len h3
  have a7 : c.doc.data.toList.length = c.doc.size := rfl
  constructor
  · unfold callW
    simp only [List.length_append]
    have q (p : Prop) [Decidable p] (x : List UInt8) : (if p then [x] else []).length ≤ 1 := by split <;> simp
    have := q (c.kind ≤ 5) c.doc.data.toList
    have := q (c.kind = 2 ∨ c.kind = 6 ∨ c.kind = 7) (numT c.client)
    have := q (c.kind = 2) (numT c.seq)
    have := q (c.kind = 2 ∨ c.kind = 3 ∨ c.kind = 5 ∨ c.kind = 6) (numT c.n)
    have := q (c.kind = 2) (wordT c.o)
    have := q (c.kind = 1) (signT c.text)
    simp only [List.length_singleton]
    omega
  · intro x hx
    unfold callW at hx
    have q {p : Prop} [Decidable p] {y : List UInt8} (h : x ∈ (if p then [y] else [])) : x = y := by split at h <;> simp at h; exact h
    simp only [List.mem_append, List.mem_singleton] at hx
    rcases hx with (((((hx | hx) | hx) | hx) | hx) | hx) | hx
    · rw [hx]; omega
    all_goals (rw [q hx]; omega)
theorem callT_len (c : DCall) : (callT c).length ≤ 150000 := by
  by_cases h : okCall c = true
  · obtain ⟨h1, h2⟩ := callW_len h
    have h3 := join_len (m := 20000) (sep := [32]) (Nat.le_refl 1) h2
    unfold callT
    split
    · omega
    · simp
  · rw [okCall_no (by simpa using h)]; simp
theorem cond_no {α : Type} {a b n d e f : Bool} {x y : α} (h : ¬ (true && a && (!b || n) && d && e && f) = true) : (bif bif bif bif bif !a then true else bif b then !n else false then true else !d then true else !e then true else !f then x else y) = x := by
  revert h; cases a <;> cases b <;> cases n <;> cases d <;> cases e <;> cases f <;> simp
theorem cond_yes {α : Type} {a b n d e f : Bool} {x y : α} (h : (true && a && (!b || n) && d && e && f) = true) : (bif bif bif bif bif !a then true else bif b then !n else false then true else !d then true else !e then true else !f then x else y) = y := by
  revert h; cases a <;> cases b <;> cases n <;> cases d <;> cases e <;> cases f <;> simp
theorem cond_no2 {α : Type} {a b n d e f : Bool} {x y : α} (h : ¬ (true && a && (!b || n) && d && e && f) = true) : (bif bif bif bif bif !a then true else !d then true else !e then true else !f then true else bif b then !n else false then x else y) = x := by
  revert h; cases a <;> cases b <;> cases n <;> cases d <;> cases e <;> cases f <;> simp
theorem cond_yes2 {α : Type} {a b n d e f : Bool} {x y : α} (h : (true && a && (!b || n) && d && e && f) = true) : (bif bif bif bif bif !a then true else !d then true else !e then true else !f then true else bif b then !n else false then x else y) = y := by
  revert h; cases a <;> cases b <;> cases n <;> cases d <;> cases e <;> cases f <;> simp
theorem z32 : (⟨#[32]⟩ : ByteArray) = baOf [32] := rfl
theorem i_CallText (c : DCall) : x_impl_CallText c = some (baOf (callT c)) := by
  unfold x_impl_CallText
  rw [i_CallOk, Option.bind_some]
  by_cases hok : okCall c = true
  case neg => rw [okCall_no (by simpa using hok), show okCall c = false by simpa using hok]; rfl
  obtain ⟨hk, hd, ht⟩ := okCall_get hok
  simp only [hok, i_OpOk, i_NameOk c.doc (by omega), i_within, i_OnDoc, i_NumText, i_SignText c.text (by omega), i_opWord, i_ClName, Option.bind_some, cs_, Bool.not_true, cond_false]
  by_cases hg : goodC c = true
  case neg =>
    unfold callT
    rw [if_neg hg]
    unfold goodC at hg
    rw [hok] at hg
    rw [cond_no hg]
    rfl
  have hT : callT c = Lib.join (callW c) [32] := if_pos hg
  unfold goodC at hg
  rw [hok] at hg
  rw [cond_yes hg, hT]
  clear hg hT
  obtain ⟨D, hD⟩ : ∃ D, c.doc = baOf D := ⟨_, ba_doc _⟩
  have hDl : D.length ≤ 8 := by rw [hD, baOf_size] at hd; exact hd
  have a1 := clT_len c.kind
  have a2 := numT_10 c.client
  have a3 := numT_10 c.seq
  have a4 := numT_10 c.n
  have a5 := wordT_len c.o
  have a6 := signT_len ht
  unfold callW
  rw [hD, toL_baOf, z32]
  rcases kind8 hk with h | h | h | h | h | h | h | h
  all_goals (simp (disch := first | omega | (simp only [baOf_size, List.length_append, List.length_singleton]; omega)) only [cd_t, cd_f, if_pos, if_neg, baOf_app, xg_of]; congr 2; simp [Lib.join_cons, Lib.joinTail])
theorem s_CallText (c : DCall) : x_spec_CallText c = some (baOf (callT c)) := by
  unfold x_spec_CallText
  rw [s_CallOk, Option.bind_some]
  by_cases hok : okCall c = true
  case neg => rw [okCall_no (by simpa using hok), show okCall c = false by simpa using hok]; rfl
  obtain ⟨hk, hd, ht⟩ := okCall_get hok
  simp only [hok, s_OpOk, s_NameOk c.doc (by omega), s_In, s_OnDoc, s_NumText, s_SignText c.text (by omega), s_l19Op, s_ClName, Option.bind_some, cs_, Bool.not_true, cond_false]
  by_cases hg : goodC c = true
  case neg =>
    unfold callT
    rw [if_neg hg]
    unfold goodC at hg
    rw [hok] at hg
    rw [cond_no2 hg]
    rfl
  have hT : callT c = Lib.join (callW c) [32] := if_pos hg
  unfold goodC at hg
  rw [hok] at hg
  rw [cond_yes2 hg, hT]
  clear hg hT
  obtain ⟨hw1, hw2⟩ := callW_len hok
  have key : ∀ l, l = (callW c).map baOf → Option.bind (x_spec_l19Join l) (fun r => some r) = some (baOf (Lib.join (callW c) [32])) := fun l hl => by
    rw [s_l19Join l 20000 (fun x hx => by rw [hl] at hx; obtain ⟨y, hy, rfl⟩ := List.mem_map.1 hx; rw [baOf_size]; exact hw2 y hy) (by rw [hl, List.length_map]; omega), Option.bind_some, hl, List.map_map]
    congr 3
    exact (List.map_congr_left fun x _ => toL_baOf x).trans (List.map_id _)
  obtain ⟨D, hD⟩ : ∃ D, c.doc = baOf D := ⟨_, ba_doc _⟩
  unfold x_spec_l19Has
  rw [hD]
  rcases kind8 hk with h | h | h | h | h | h | h | h
  all_goals (simp (disch := first | omega | (simp only [List.length_append, List.length_singleton]; omega)) only [cd_t, cd_f, cd_T, Option.bind_some, xg_of]; refine key _ ?_; unfold callW; simp (disch := omega) only [if_pos, if_neg]; simp [hD, toL_baOf])
noncomputable def callsT (w : DWorld) : List ByteArray := w.tasks.map fun t => baOf (callT t.c)
theorem i_CallTexts (w : DWorld) (h : w.tasks.length ≤ 1048576) : x_impl_CallTexts w = some (callsT w) := by
  unfold x_impl_CallTexts
  rw [list_loop w.tasks (fun t => baOf (callT t.c)) (fun x k s hk hx hm hs => by
    unfold x_impl_CallTexts_f0 x_impl_CallTexts_b0
    rw [hx, i_CallText, Option.bind_some, xg_of (by omega)])]
  rfl
theorem s_CallTexts (w : DWorld) (h : w.tasks.length ≤ 1048576) : x_spec_CallTexts w = some (callsT w) := by
  unfold x_spec_CallTexts
  rw [list_loop w.tasks (fun t => baOf (callT t.c)) (fun x k s hk hx hm hs => by
    unfold x_spec_CallTexts_f0 x_spec_CallTexts_b0
    rw [hx, s_CallText, Option.bind_some, xg_of (by omega)])]
  rfl
theorem sumL_map_bd {T : Type} (u : T → ByteArray) (m : Nat) (h : ∀ x, (u x).size ≤ m) : ∀ (l : List T), sumL szT (l.map u) ≤ m * l.length
  | [] => by simp [sumL]
  | x :: l => by
    have := sumL_map_bd u m h l
    have := h x
    simp only [List.map_cons, sumL, szT, List.length_cons, Nat.mul_succ] at *
    omega
theorem ex_FnExactCallTexts (w : DWorld) (_ : wfDWorld w) (h : szDWorld w ≤ 1048576) : ∃ r, x_spec_CallTexts w = some r ∧ x_impl_CallTexts w = some r ∧ lenL szT r ≤ 1000000000000 := by
  have hl : w.tasks.length ≤ 1048576 := by
    unfold szDWorld at h
    have := lenL_eq szDTask w.tasks
    omega
  refine ⟨callsT w, s_CallTexts w hl, i_CallTexts w hl, ?_⟩
  have h2 := sumL_map_bd (fun t : DTask => baOf (callT t.c)) 150000 (fun t => by rw [baOf_size]; exact callT_len t.c) w.tasks
  rw [lenL_eq]
  unfold callsT
  rw [List.length_map]
  omega
end Go.Proofs.YtjbonmmmcnpjiaaGreatDoor
