/- Plain definitions: parts of operations. No condition. -/
import Derived.Test.YthnnhoabdhhkaaaMathA
namespace Go.Proofs.Ythnnhoabdhhkaaa

structure Pt where
  k : Int
  n : Int
  s : List Int
deriving DecidableEq

theorem Pt.eq_iff {a b : Pt} : a = b ↔ a.k = b.k ∧ a.n = b.n ∧ a.s = b.s := by
  cases a; cases b; simp

def partOk (p : Pt) : Bool :=
  if p.k = 1 ∨ p.k = 3 then within p.n 0 200 && decide ((p.s.length : Int) = 0)
  else if p.k = 2 then decide (p.n = 0) && decide ((p.s.length : Int) ≤ 200) && signsOk p.s else false
def partsOk (o : List Pt) : Bool := o.all partOk && decide ((o.length : Int) ≤ 600)
def pSize (p : Pt) : Int := p.n + (p.s.length : Int)

def sumBy (g : Pt → Int) : List Pt → Int
  | [] => 0
  | p :: o => g p + sumBy g o

theorem sumBy_append (g : Pt → Int) (a b : List Pt) : sumBy g (a ++ b) = sumBy g a + sumBy g b := by
  induction a with
  | nil => simp [sumBy]
  | cons p a ih => simp only [List.cons_append, sumBy, ih]; omega

theorem sumBy_congr {g h : Pt → Int} {o : List Pt} (e : ∀ p ∈ o, g p = h p) : sumBy g o = sumBy h o := by
  induction o with
  | nil => rfl
  | cons p o ih =>
    simp only [sumBy]
    rw [e p (by simp), ih fun q hq => e q (by simp [hq])]

theorem sumBy_bd {g : Pt → Int} {o : List Pt} {c : Int} (hc : ∀ p ∈ o, 0 ≤ g p ∧ g p ≤ c) : 0 ≤ sumBy g o ∧ sumBy g o ≤ c * (o.length : Int) := by
  induction o with
  | nil => simp [sumBy]
  | cons p o ih =>
    have h1 := hc p (by simp)
    have h2 := ih fun q hq => hc q (by simp [hq])
    simp only [sumBy, List.length_cons]
    have e : c * (((o.length + 1 : Nat)) : Int) = c * (o.length : Int) + c := by rw [Int.natCast_add, Int.mul_add]; simp
    rw [e]
    omega

theorem sumBy_take (g : Pt → Int) (o : List Pt) (i : Nat) (d0 : Pt) (h : i < o.length) : sumBy g (o.take (i + 1)) = sumBy g (o.take i) + g (o.getD i d0) := by
  rw [take_snoc o i d0 h, sumBy_append]; simp [sumBy]

def gKind (k : Int) (p : Pt) : Int := if p.k = k then pSize p else 0
def gBut (k : Int) (p : Pt) : Int := if p.k = k then 0 else pSize p

def opFrom (o : List Pt) : Int := if partsOk o then sumBy (gBut 2) o else 0
def opTo (o : List Pt) : Int := if partsOk o then sumBy (gBut 3) o else 0
def opOk (o : List Pt) : Bool := partsOk o && decide (opFrom o ≤ 200) && decide (opTo o ≤ 200)
def puts (o : List Pt) : Int := if opOk o then sumBy (gKind 2) o else 0
def drops (o : List Pt) : Int := if opOk o then sumBy (gKind 3) o else 0

theorem part_cases {p : Pt} (h : partOk p = true) : (p.k = 1 ∧ p.s = [] ∧ 0 ≤ p.n ∧ p.n ≤ 200) ∨ (p.k = 3 ∧ p.s = [] ∧ 0 ≤ p.n ∧ p.n ≤ 200) ∨ (p.k = 2 ∧ p.n = 0 ∧ (p.s.length : Int) ≤ 200 ∧ signsOk p.s = true) := by
  unfold partOk at h
  split at h
  · rename_i hk
    simp only [Bool.and_eq_true, decide_eq_true_eq] at h
    obtain ⟨h1, h2⟩ := h
    have h3 := within_iff.1 h1
    have h4 : p.s = [] := List.eq_nil_of_length_eq_zero (by omega)
    rcases hk with hk | hk
    · exact .inl ⟨hk, h4, h3.1, h3.2⟩
    · exact .inr (.inl ⟨hk, h4, h3.1, h3.2⟩)
  · split at h
    · rename_i hk
      simp only [Bool.and_eq_true, decide_eq_true_eq] at h
      exact .inr (.inr ⟨hk, h.1.1, h.1.2, h.2⟩)
    · cases h

theorem partsOk_mem {o : List Pt} (h : partsOk o = true) : ∀ p ∈ o, partOk p = true := by
  simp only [partsOk, Bool.and_eq_true, List.all_eq_true] at h
  exact h.1
theorem partsOk_len {o : List Pt} (h : partsOk o = true) : (o.length : Int) ≤ 600 := by
  simp only [partsOk, Bool.and_eq_true, decide_eq_true_eq] at h
  exact h.2

theorem pSize_bd {p : Pt} (h : partOk p = true) : 0 ≤ pSize p ∧ pSize p ≤ 200 := by
  unfold pSize
  rcases part_cases h with ⟨_, h1, h2, h3⟩ | ⟨_, h1, h2, h3⟩ | ⟨_, h1, h2, h3⟩
  · rw [h1]; simp; omega
  · rw [h1]; simp; omega
  · omega

theorem gBut_bd {k : Int} {o : List Pt} (h : partsOk o = true) (i : Nat) : 0 ≤ sumBy (gBut k) (o.take i) ∧ sumBy (gBut k) (o.take i) ≤ 120000 := by
  have h1 := sumBy_bd (g := gBut k) (o := o.take i) (c := 200) fun p hp => by
    have := pSize_bd (partsOk_mem h p (List.mem_of_mem_take hp))
    unfold gBut
    split <;> omega
  have h2 := partsOk_len h
  have h3 : (o.take i).length ≤ o.length := by simp; omega
  omega
theorem gKind_bd {k : Int} {o : List Pt} (h : partsOk o = true) (i : Nat) : 0 ≤ sumBy (gKind k) (o.take i) ∧ sumBy (gKind k) (o.take i) ≤ 120000 := by
  have h1 := sumBy_bd (g := gKind k) (o := o.take i) (c := 200) fun p hp => by
    have := pSize_bd (partsOk_mem h p (List.mem_of_mem_take hp))
    unfold gKind
    split <;> omega
  have h2 := partsOk_len h
  have h3 : (o.take i).length ≤ o.length := by simp; omega
  omega

theorem mem_getD {T : Type} {l : List T} {i : Nat} {d : T} (h : i < l.length) : l.getD i d ∈ l := by
  rw [List.getD_eq_getElem?_getD, List.getElem?_eq_getElem h]
  exact List.getElem_mem h

/-- What the loops of the reference add up. -/
def sum3 (o : List Pt) : Int × Int × Int := if partsOk o then (sumBy (gKind 1) o, sumBy (gKind 2) o, sumBy (gKind 3) o) else (0, 0, 0)

theorem opFrom_eq (o : List Pt) : opFrom o = (sum3 o).1 + (sum3 o).2.2 := by
  unfold opFrom sum3
  split
  · rename_i h
    have : ∀ (l : List Pt), (∀ p ∈ l, partOk p = true) → sumBy (gBut 2) l = sumBy (gKind 1) l + sumBy (gKind 3) l := by
      intro l
      induction l with
      | nil => intro _; rfl
      | cons p l ih =>
        intro hl
        have h1 := part_cases (hl p (by simp))
        have h2 := ih fun q hq => hl q (by simp [hq])
        simp only [sumBy, gBut, gKind]
        rw [h2]
        rcases h1 with ⟨h, _⟩ | ⟨h, _⟩ | ⟨h, _⟩ <;> simp [h] <;> omega
    exact this o (partsOk_mem h)
  · rfl
theorem opTo_eq (o : List Pt) : opTo o = (sum3 o).1 + (sum3 o).2.1 := by
  unfold opTo sum3
  split
  · rename_i h
    have : ∀ (l : List Pt), (∀ p ∈ l, partOk p = true) → sumBy (gBut 3) l = sumBy (gKind 1) l + sumBy (gKind 2) l := by
      intro l
      induction l with
      | nil => intro _; rfl
      | cons p l ih =>
        intro hl
        have h1 := part_cases (hl p (by simp))
        have h2 := ih fun q hq => hl q (by simp [hq])
        simp only [sumBy, gBut, gKind]
        rw [h2]
        rcases h1 with ⟨h, _⟩ | ⟨h, _⟩ | ⟨h, _⟩ <;> simp [h] <;> omega
    exact this o (partsOk_mem h)
  · rfl

theorem sum3_bd (o : List Pt) : (0 ≤ (sum3 o).1 ∧ (sum3 o).1 ≤ 120000) ∧ (0 ≤ (sum3 o).2.1 ∧ (sum3 o).2.1 ≤ 120000) ∧ (0 ≤ (sum3 o).2.2 ∧ (sum3 o).2.2 ≤ 120000) := by
  unfold sum3
  split
  · rename_i h
    have h1 := gKind_bd (k := 1) h o.length
    have h2 := gKind_bd (k := 2) h o.length
    have h3 := gKind_bd (k := 3) h o.length
    rw [List.take_length] at h1 h2 h3
    exact ⟨h1, h2, h3⟩
  · simp

theorem opOk_parts {o : List Pt} (h : opOk o = true) : partsOk o = true := by
  simp only [opOk, Bool.and_eq_true] at h; exact h.1.1
theorem puts_eq (o : List Pt) : puts o = if opOk o then (sum3 o).2.1 else 0 := by
  unfold puts
  split
  · rename_i h; simp only [sum3, opOk_parts h, if_true]
  · rfl
theorem drops_eq (o : List Pt) : drops o = if opOk o then (sum3 o).2.2 else 0 := by
  unfold drops
  split
  · rename_i h; simp only [sum3, opOk_parts h, if_true]
  · rfl
theorem opFrom_bd (o : List Pt) : 0 ≤ opFrom o ∧ opFrom o ≤ 240000 := by have := sum3_bd o; rw [opFrom_eq]; omega
theorem opTo_bd (o : List Pt) : 0 ≤ opTo o ∧ opTo o ≤ 240000 := by have := sum3_bd o; rw [opTo_eq]; omega
theorem puts_bd (o : List Pt) : 0 ≤ puts o ∧ puts o ≤ 120000 := by
  rw [puts_eq]; have := sum3_bd o; split <;> omega
theorem drops_bd (o : List Pt) : 0 ≤ drops o ∧ drops o ≤ 120000 := by
  rw [drops_eq]; have := sum3_bd o; split <;> omega

theorem partOk_1 {p : Pt} (h : p.k = 1) : partOk p = (within p.n 0 200 && decide ((p.s.length : Int) = 0)) := by unfold partOk; rw [if_pos (.inl h)]
theorem partOk_3 {p : Pt} (h : p.k = 3) : partOk p = (within p.n 0 200 && decide ((p.s.length : Int) = 0)) := by unfold partOk; rw [if_pos (.inr h)]
theorem partOk_2 {p : Pt} (h : p.k = 2) : partOk p = (decide (p.n = 0) && decide ((p.s.length : Int) ≤ 200) && signsOk p.s) := by unfold partOk; rw [if_neg (by omega), if_pos h]
theorem partOk_2s {p : Pt} (h : p.k = 2) : partOk p = (decide (p.n = 0) && signsOk p.s && decide ((p.s.length : Int) ≤ 200)) := by rw [partOk_2 h, Bool.and_assoc, Bool.and_assoc, Bool.and_comm (signsOk p.s)]
theorem partOk_no {p : Pt} (h1 : ¬ p.k = 1) (h3 : ¬ p.k = 3) (h2 : ¬ p.k = 2) : partOk p = false := by unfold partOk; rw [if_neg (by omega), if_neg h2]

theorem gBut_n {but : Int} {p : Pt} (h : p.k = but) : gBut but p = 0 := by simp [gBut, h]
theorem gBut_y {but : Int} {p : Pt} (h : ¬ p.k = but) : gBut but p = pSize p := by simp [gBut, h]
theorem gKind_y {k : Int} {p : Pt} (h : p.k = k) : gKind k p = pSize p := by simp [gKind, h]
theorem gKind_n {k : Int} {p : Pt} (h : ¬ p.k = k) : gKind k p = 0 := by simp [gKind, h]
theorem sz_no {o : List Pt} {g : Pt → Int} (h : partsOk o = false) : 0 = if partsOk o then sumBy g o else 0 := by rw [h]; rfl
theorem szk_no {o : List Pt} {g : Pt → Int} (h : opOk o = false) : 0 = if opOk o then sumBy g o else 0 := by rw [h]; rfl

theorem s3_1 {p : Pt} (h : partOk p = true) (hk : p.k = 1) : gKind 1 p = p.n ∧ gKind 2 p = 0 ∧ gKind 3 p = 0 := by
  have h1 := part_cases h
  rcases h1 with ⟨_, h2, _⟩ | ⟨h2, _⟩ | ⟨h2, _⟩
  · simp [gKind, hk, pSize, h2]
  · omega
  · omega
theorem s3_2 {p : Pt} (h : partOk p = true) (hk : p.k = 2) : gKind 1 p = 0 ∧ gKind 2 p = (p.s.length : Int) ∧ gKind 3 p = 0 := by
  have h1 := part_cases h
  rcases h1 with ⟨h2, _⟩ | ⟨h2, _⟩ | ⟨_, h2, _⟩
  · omega
  · omega
  · simp [gKind, hk, pSize, h2]
theorem s3_3 {p : Pt} (h : partOk p = true) (h1 : ¬ p.k = 1) (h2 : ¬ p.k = 2) : gKind 1 p = 0 ∧ gKind 2 p = 0 ∧ gKind 3 p = p.n := by
  have h3 := part_cases h
  rcases h3 with ⟨h4, _⟩ | ⟨hk, h4, _⟩ | ⟨h4, _⟩
  · omega
  · simp [gKind, hk, pSize, h4]
  · omega
theorem part_n {p : Pt} (h : partOk p = true) : 0 ≤ p.n ∧ p.n ≤ 200 ∧ (p.s.length : Int) ≤ 200 := by
  rcases part_cases h with ⟨_, h1, h2⟩ | ⟨_, h1, h2⟩ | ⟨_, h1, h2⟩
  · rw [h1]; simp; omega
  · rw [h1]; simp; omega
  · omega
theorem sum3_no {o : List Pt} (h : partsOk o = false) : sum3 o = (0, 0, 0) := by unfold sum3; rw [h]; rfl
theorem sum3_yes {o : List Pt} (h : partsOk o = true) : sum3 o = (sumBy (gKind 1) o, sumBy (gKind 2) o, sumBy (gKind 3) o) := by unfold sum3; rw [h]; rfl
theorem opOk_def (o : List Pt) : opOk o = (partsOk o && decide (opFrom o ≤ 200) && decide (opTo o ≤ 200)) := rfl

end Go.Proofs.Ythnnhoabdhhkaaa
