/- What signs, parts and operations are; the program and the reference ask for the same. No condition. -/
import Derived.Test.YtjbonmmmcnpjiaaGreatDoorMd
import Derived.Test.YtjbonmmmcnpjiaaGreatDoorG1
namespace Go.Proofs.YtjbonmmmcnpjiaaGreatDoor

theorem n200 (a : Nat) : ((a : Int) ≤ 200) ↔ a ≤ 200 := by omega
theorem n600 (a : Nat) : ((a : Int) ≤ 600) ↔ a ≤ 600 := by omega

def okSign (n : Int) : Bool := decide ((0 ≤ n ∧ n ≤ 1114111) ∧ ¬ (55296 ≤ n ∧ n ≤ 57343))
def okText (l : List Int) : Bool := decide (l.length ≤ 200) && l.all okSign

theorem i_within (n lo hi : Int) : x_impl_within n lo hi = some (decide (lo ≤ n ∧ n ≤ hi)) := by unfold x_impl_within; simp only [Option.bind_some, cs_, ca_]; refine bsome ?_; simp
theorem s_In (n lo hi : Int) : x_spec_l01In n lo hi = some (decide (lo ≤ n ∧ n ≤ hi)) := by unfold x_spec_l01In; simp only [Option.bind_some, cs_, ca_]; refine bsome ?_; simp
theorem i_SignOk (n : Int) : x_impl_SignOk n = some (okSign n) := by unfold x_impl_SignOk okSign; simp only [i_within, Option.bind_some, cs_, ca_]; refine bsome ?_; simp; try omega
theorem s_SignOk (n : Int) : x_spec_SignOk n = some (okSign n) := by unfold x_spec_SignOk okSign; simp only [s_In, Option.bind_some, cs_, ca_]; refine bsome ?_; simp; try omega

theorem i_SignsOk (l : List Int) : x_impl_SignsOk l = some (l.all okSign) := by
  unfold x_impl_SignsOk
  rw [each_all (b := .inr ()) l okSign (fun x k hk hx => by
    unfold x_impl_SignsOk_f0 x_impl_SignsOk_b0; rw [hx, i_SignOk]; cases okSign x <;> rfl)]
  cases l.all okSign <;> rfl
theorem s_SignsOk (l : List Int) : x_spec_SignsOk l = some (l.all okSign) := by
  unfold x_spec_SignsOk
  rw [each_all (b := .inr ()) l okSign (fun x k hk hx => by
    unfold x_spec_SignsOk_f0 x_spec_SignsOk_b0; rw [hx, s_SignOk]; cases okSign x <;> rfl)]
  cases l.all okSign <;> rfl

theorem i_TextOk (l : List Int) : x_impl_TextOk l = some (okText l) := by unfold x_impl_TextOk okText; simp only [i_SignsOk, Option.bind_some, cs_, ca_]; refine bsome ?_; simp; try omega
theorem s_TextOk (l : List Int) : x_spec_TextOk l = some (okText l) := by unfold x_spec_TextOk okText; simp only [s_SignsOk, Option.bind_some, cs_, ca_]; refine bsome ?_; simp [n200, and_comm]

def okPart (p : DPart) : Bool :=
  if p.kind = 1 ∨ p.kind = 3 then decide ((0 ≤ p.n ∧ p.n ≤ 200) ∧ p.signs.length = 0)
  else if p.kind = 2 then decide (p.n = 0 ∧ p.signs.length ≤ 200) && p.signs.all okSign
  else false
theorem i_PartOk (p : DPart) : x_impl_PartOk p = some (okPart p) := by
  unfold x_impl_PartOk okPart
  simp only [i_within, i_SignsOk, Option.bind_some, cs_, ca_]
  refine bsome ?_
  by_cases h1 : p.kind = 1
  · simp [h1]
  · by_cases h3 : p.kind = 3
    · simp [h3]
    · by_cases h2 : p.kind = 2
      · simp [h2, n200, and_assoc]
      · simp [h1, h2, h3]
theorem s_PartOk (p : DPart) : x_spec_PartOk p = some (okPart p) := by
  unfold x_spec_PartOk okPart
  simp only [s_In, s_SignsOk, Option.bind_some, cs_, ca_]
  refine bsome ?_
  by_cases h1 : p.kind = 1
  · simp [h1]
  · by_cases h3 : p.kind = 3
    · simp [h3]
    · by_cases h2 : p.kind = 2
      · simp [h2, n200, and_comm, and_left_comm, and_assoc]
      · simp [h1, h2, h3]

def okParts (o : List DPart) : Bool := decide (o.length ≤ 600) && o.all okPart
theorem i_partsOk (o : List DPart) : x_impl_partsOk o = some (okParts o) := by
  unfold x_impl_partsOk okParts
  rw [each_all (b := .inr ()) o okPart (fun x k hk hx => by
    unfold x_impl_partsOk_f0 x_impl_partsOk_b0; rw [hx, i_PartOk]; cases okPart x <;> rfl)]
  cases o.all okPart <;> simp [n600]
theorem s_Parts (o : List DPart) : x_spec_l02Parts o = some (okParts o) := by
  unfold x_spec_l02Parts okParts
  rw [each_all (b := .inr ()) o okPart (fun x k hk hx => by
    unfold x_spec_l02Parts_f0 x_spec_l02Parts_b0; rw [hx, s_PartOk]; cases okPart x <;> rfl)]
  cases o.all okPart <;> simp [n600]

-- Sizes of parts
def pKeep (p : DPart) : Int := if p.kind = 1 then p.n else 0
def pPut (p : DPart) : Int := if p.kind = 2 then p.signs.length else 0
def pDrop (p : DPart) : Int := if p.kind = 3 then p.n else 0
def pFrom (p : DPart) : Int := pKeep p + pDrop p
def pTo (p : DPart) : Int := pKeep p + pPut p

theorem okPart_cases {p : DPart} (h : okPart p = true) : (p.kind = 1 ∧ 0 ≤ p.n ∧ p.n ≤ 200 ∧ p.signs = []) ∨ (p.kind = 2 ∧ p.n = 0 ∧ p.signs.length ≤ 200 ∧ p.signs.all okSign = true) ∨ (p.kind = 3 ∧ 0 ≤ p.n ∧ p.n ≤ 200 ∧ p.signs = []) := by
  unfold okPart at h
  split at h
  · rename_i hk
    simp at h
    rcases hk with hk | hk
    · exact .inl ⟨hk, h.1.1, h.1.2, h.2⟩
    · exact .inr (.inr ⟨hk, h.1.1, h.1.2, h.2⟩)
  · split at h
    · rename_i hk
      simp only [Bool.and_eq_true, decide_eq_true_eq] at h
      exact .inr (.inl ⟨hk, h.1.1, h.1.2, h.2⟩)
    · cases h
theorem okPart_len {p : DPart} (h : okPart p = true) : p.signs.length ≤ 200 ∧ 0 ≤ p.n ∧ p.n ≤ 200 := by
  rcases okPart_cases h with ⟨h1, h2, h3, h4⟩ | ⟨h1, h2, h3, h4⟩ | ⟨h1, h2, h3, h4⟩
  · rw [h4]; exact ⟨by simp, h2, h3⟩
  · exact ⟨h3, by omega, by omega⟩
  · rw [h4]; exact ⟨by simp, h2, h3⟩
theorem okParts_mem {o : List DPart} (h : okParts o = true) {p : DPart} (hp : p ∈ o) : okPart p = true := by
  unfold okParts at h
  simp only [Bool.and_eq_true, List.all_eq_true] at h
  exact h.2 p hp
theorem okParts_len {o : List DPart} (h : okParts o = true) : o.length ≤ 600 := by
  unfold okParts at h
  simp only [Bool.and_eq_true, decide_eq_true_eq] at h
  exact h.1

def fromOf (o : List DPart) : Int := sumI pFrom o
def toOf (o : List DPart) : Int := sumI pTo o
def putsOf (o : List DPart) : Int := sumI pPut o
def dropsOf (o : List DPart) : Int := sumI pDrop o
def keepsOf (o : List DPart) : Int := sumI pKeep o

theorem sum_from (o : List DPart) : fromOf o = keepsOf o + dropsOf o := by
  unfold fromOf keepsOf dropsOf
  induction o with
  | nil => rfl
  | cons p o ih => simp only [sumI, ih, pFrom]; omega
theorem sum_to (o : List DPart) : toOf o = keepsOf o + putsOf o := by
  unfold toOf keepsOf putsOf
  induction o with
  | nil => rfl
  | cons p o ih => simp only [sumI, ih, pTo]; omega

theorem bd_part {p : DPart} (h : okPart p = true) : (0 ≤ pKeep p ∧ pKeep p ≤ 200) ∧ (0 ≤ pPut p ∧ pPut p ≤ 200) ∧ (0 ≤ pDrop p ∧ pDrop p ≤ 200) ∧ (0 ≤ pFrom p ∧ pFrom p ≤ 200) ∧ (0 ≤ pTo p ∧ pTo p ≤ 200) := by
  unfold pFrom pTo pKeep pPut pDrop
  rcases okPart_cases h with ⟨h1, h2, h3, h4⟩ | ⟨h1, h2, h3, h4⟩ | ⟨h1, h2, h3, h4⟩ <;> simp [h1] <;> omega
theorem bd_parts {o : List DPart} (h : okParts o = true) : (0 ≤ keepsOf o ∧ keepsOf o ≤ 120000) ∧ (0 ≤ putsOf o ∧ putsOf o ≤ 120000) ∧ (0 ≤ dropsOf o ∧ dropsOf o ≤ 120000) := by
  have hl := okParts_len h
  have key : ∀ (f : DPart → Int), (∀ p, okPart p = true → 0 ≤ f p ∧ f p ≤ 200) → 0 ≤ sumI f o ∧ sumI f o ≤ 120000 := fun f hf => by
    have h1 := sumI_nn (f := f) (l := o) (fun x hx => (hf x (okParts_mem h hx)).1)
    have h2 := sumI_bd (f := f) (n := 200) (l := o) (fun x hx => (hf x (okParts_mem h hx)).2)
    omega
  exact ⟨key _ fun p hp => (bd_part hp).1, key _ fun p hp => (bd_part hp).2.1, key _ fun p hp => (bd_part hp).2.2.1⟩

theorem i_size {p : DPart} (h : okPart p = true) : x_impl_size p = some (p.n + p.signs.length) := by
  unfold x_impl_size
  have := okPart_len h
  rw [xg_I (by omega) (by omega)]

theorem i_sizeOf (o : List DPart) (but : Int) : x_impl_sizeOf o but = some (if okParts o then sumI (fun p => if p.kind = but then 0 else p.n + p.signs.length) o else 0) := by
  unfold x_impl_sizeOf
  rw [i_partsOk]
  simp only [Option.bind_some]
  cases h : okParts o with
  | false => rfl
  | true =>
    have hl := okParts_len h
    simp only [Bool.not_true, cond_false, if_true]
    rw [each_sum o (fun p => if p.kind = but then 0 else p.n + p.signs.length) 200 (by decide) (by omega) (fun x hx => by
      rcases okPart_cases (okParts_mem h hx) with ⟨h1, h2, h3, h4⟩ | ⟨h1, h2, h3, h4⟩ | ⟨h1, h2, h3, h4⟩ <;> (try rw [h4]) <;> (try rw [h2]) <;> split <;> simp <;> omega) (fun x k s hk hx hm h0 hs => by
      have hp := okParts_mem h hm
      unfold x_impl_sizeOf_f0 x_impl_sizeOf_b0
      rw [hx, i_size hp]
      have hc := okPart_len hp
      by_cases hb : x.kind = but
      · simp [hb]
      · rw [cd_n, cd_f hb, if_neg hb]
        simp only [Option.bind_some]
        rw [xg_I (by omega) (by omega)])]
    rfl

theorem i_OpFrom (o : List DPart) : x_impl_OpFrom o = some (if okParts o then fromOf o else 0) := by
  unfold x_impl_OpFrom
  rw [i_sizeOf]
  simp only [Option.bind_some]
  cases h : okParts o with
  | false => rfl
  | true =>
    simp only [if_true]
    rw [fromOf, sumI_congr (f := fun p => if p.kind = 2 then 0 else p.n + p.signs.length) (g := pFrom) fun p hp => by
      unfold pFrom pKeep pDrop
      rcases okPart_cases (okParts_mem h hp) with ⟨h1, h2, h3, h4⟩ | ⟨h1, h2, h3, h4⟩ | ⟨h1, h2, h3, h4⟩ <;> simp [h1, h4]]
theorem i_OpTo (o : List DPart) : x_impl_OpTo o = some (if okParts o then toOf o else 0) := by
  unfold x_impl_OpTo
  rw [i_sizeOf]
  simp only [Option.bind_some]
  cases h : okParts o with
  | false => rfl
  | true =>
    simp only [if_true]
    rw [toOf, sumI_congr (f := fun p => if p.kind = 3 then 0 else p.n + p.signs.length) (g := pTo) fun p hp => by
      unfold pTo pKeep pPut
      rcases okPart_cases (okParts_mem h hp) with ⟨h1, h2, h3, h4⟩ | ⟨h1, h2, h3, h4⟩ | ⟨h1, h2, h3, h4⟩ <;> simp [h1, h2, h4]]

def okOp (o : List DPart) : Bool := okParts o && decide (fromOf o ≤ 200) && decide (toOf o ≤ 200)
theorem i_OpOk (o : List DPart) : x_impl_OpOk o = some (okOp o) := by
  unfold x_impl_OpOk okOp
  simp only [i_partsOk, i_OpFrom, i_OpTo, Option.bind_some, cs_, ca_]
  cases okParts o <;> simp

theorem s_Sum (o : List DPart) : x_spec_l02Sum o = some (if okParts o then (keepsOf o, putsOf o, dropsOf o) else (0, 0, 0)) := by
  unfold x_spec_l02Sum
  rw [s_Parts]
  simp only [Option.bind_some]
  cases h : okParts o with
  | false => rfl
  | true =>
    have hl := okParts_len h
    simp only [Bool.not_true, cond_false, if_true]
    have hm : ∀ p ∈ o, okPart p = true := fun p hp => okParts_mem h hp
    rw [each_fold (F := x_spec_l02Sum_f0 o) o (fun r k s => ((0 ≤ s.1 ∧ s.1 ≤ 200 * k) ∧ (0 ≤ s.2.1 ∧ s.2.1 ≤ 200 * k) ∧ (0 ≤ s.2.2 ∧ s.2.2 ≤ 200 * k)) ∧ k ≤ 600) (fun s x => (s.1 + pKeep x, s.2.1 + pPut x, s.2.2 + pDrop x)) (fun x r k s hk hx hP => by
      have hp := hm x (hx ▸ el_mem hk)
      obtain ⟨s1, s2, s3⟩ := s
      simp only at hP ⊢
      unfold x_spec_l02Sum_f0 x_spec_l02Sum_b0
      rw [hx]
      simp only
      unfold pKeep pPut pDrop
      rcases okPart_cases hp with ⟨h1, h2, h3, h4⟩ | ⟨h1, h2, h3, h4⟩ | ⟨h1, h2, h3, h4⟩
      · rw [cd_t h1, xg_I (by omega) (by omega)]; simp [h1]; omega
      · rw [cd_f (by omega), cd_t h1, xg_I (by omega) (by omega)]; simp [h1]; omega
      · rw [cd_f (by omega), cd_f (by omega), xg_I (by omega) (by omega)]; simp [h1]; omega) (0, 0, 0) (by simp)]
    simp only [Option.bind_some]
    have key : ∀ (l : List DPart) (a b c : Int), l.foldl (fun s x => (s.1 + pKeep x, s.2.1 + pPut x, s.2.2 + pDrop x)) (a, b, c) = (a + sumI pKeep l, b + sumI pPut l, c + sumI pDrop l) := by
      intro l
      induction l with
      | nil => intro a b c; simp [sumI]
      | cons x l ih => intro a b c; rw [List.foldl_cons, ih]; simp only [sumI, Int.add_assoc]
    rw [key]
    simp [keepsOf, putsOf, dropsOf]
theorem s_OpFrom (o : List DPart) : x_spec_OpFrom o = some (if okParts o then fromOf o else 0) := by
  unfold x_spec_OpFrom
  rw [s_Sum, sum_from]
  cases h : okParts o with
  | false => rfl
  | true => have := bd_parts h; simp only [Option.bind_some, if_true]; rw [xg_I (by omega) (by omega)]
theorem s_OpTo (o : List DPart) : x_spec_OpTo o = some (if okParts o then toOf o else 0) := by
  unfold x_spec_OpTo
  rw [s_Sum, sum_to]
  cases h : okParts o with
  | false => rfl
  | true => have := bd_parts h; simp only [Option.bind_some, if_true]; rw [xg_I (by omega) (by omega)]
theorem s_OpOk (o : List DPart) : x_spec_OpOk o = some (okOp o) := by
  unfold x_spec_OpOk okOp
  simp only [s_Parts, s_OpFrom, s_OpTo, Option.bind_some, cs_, ca_]
  cases okParts o <;> simp
end Go.Proofs.YtjbonmmmcnpjiaaGreatDoor
