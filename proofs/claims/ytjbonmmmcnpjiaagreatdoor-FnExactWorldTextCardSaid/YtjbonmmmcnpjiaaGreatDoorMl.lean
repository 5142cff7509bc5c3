/- Plain laws: loops that copy, compare, weigh, mark and look at data. No condition. -/
import Derived.Test.YtjbonmmmcnpjiaaGreatDoorNz
namespace Go.Proofs.YtjbonmmmcnpjiaaGreatDoor

section
variable {α : Type}
theorem xg_of {p : Prop} [Decidable p] {x : Option α} (h : p) : xg p x = x := if_pos h
theorem xg_and {p q : Prop} [Decidable p] [Decidable q] {x : Option α} (h : p) (k : q) : xg (p ∧ q) x = x := if_pos ⟨h, k⟩
theorem xg_I {n : Int} {x : Option α} (h : -9223372036854775808 ≤ n) (k : n ≤ 9223372036854775807) : xg (inI n) x = x := if_pos ⟨h, k⟩
theorem cd_t {p : Prop} [Decidable p] {x y : α} (h : p) : (bif decide p then x else y) = x := by rw [decide_eq_true h]; rfl
theorem cd_f {p : Prop} [Decidable p] {x y : α} (h : ¬ p) : (bif decide p then x else y) = y := by rw [decide_eq_false h]; rfl
theorem cd_n {c : Bool} {x y : α} : (bif !c then x else y) = (bif c then y else x) := by cases c <;> rfl
theorem cd_T {x y : α} : (bif true then x else y) = x := rfl
theorem cd_F {x y : α} : (bif false then x else y) = y := rfl
end

section
variable {T : Type} [Inhabited T]
theorem el_set {l : List T} {i : Nat} {y : T} (h : i < l.length) : el (l.set i y) i = y := by unfold el; simp [List.getD_eq_getElem?_getD, h]
theorem el_mid (p : List T) (x : T) (l : List T) : el (p ++ x :: l) p.length = x := by unfold el; simp [List.getD_eq_getElem?_getD]
omit [Inhabited T] in
theorem set_mid (p : List T) (x y : T) (l : List T) : (p ++ x :: l).set p.length y = p ++ y :: l := by simp
theorem el_mem {l : List T} {i : Nat} (h : i < l.length) : el l i ∈ l := by rw [el_eq h]; exact List.getElem_mem h
end

-- Sizes

/- what any argument keeps -/
def wfI (n : Int) : Prop := inI n
def wfB (_ : Bool) : Prop := True
def wfT (s : ByteArray) : Prop := s.size ≤ 9223372036854775807
def wfL {T : Type} (p : T → Prop) (l : List T) : Prop := l.length ≤ 9223372036854775807 ∧ ∀ x ∈ l, p x
/- small -/
def smI (_ : Int) : Prop := True
def smB (_ : Bool) : Prop := True
def smT (s : ByteArray) : Prop := s.size ≤ 1099511627776
def smL {T : Type} (p : T → Prop) (l : List T) : Prop := l.length ≤ 1099511627776 ∧ ∀ x ∈ l, p x

def sumL {T : Type} (c : T → Nat) : List T → Nat
  | [] => 0
  | x :: l => c x + sumL c l

theorem sumL_mem {T : Type} {c : T → Nat} : ∀ {l : List T} {x : T}, x ∈ l → c x ≤ sumL c l
  | y :: l, x, h => by
    rcases List.mem_cons.1 h with rfl | h
    · simp only [sumL]; omega
    · have := sumL_mem (c := c) h; simp only [sumL]; omega
def lenL {T : Type} (c : T → Nat) (l : List T) : Nat := l.length + sumL c l
theorem lenL_eq {T : Type} (c : T → Nat) (l : List T) : lenL c l = l.length + sumL c l := rfl
theorem lenL_z {T : Type} {c : T → Nat} (h : ∀ x, c x = 0) (l : List T) : lenL c l = l.length := by
  have : sumL c l = 0 := by
    induction l with
    | nil => rfl
    | cons x l ih => simp only [sumL, h, ih]
  unfold lenL; omega
def szI (_ : Int) : Nat := 0
def szB (_ : Bool) : Nat := 0
def szT (s : ByteArray) : Nat := s.size
theorem smz_I (x : Int) (_ : szI x ≤ 1099511627776) : smI x := trivial
theorem smz_B (x : Bool) (_ : szB x ≤ 1099511627776) : smB x := trivial
theorem smz_T (x : ByteArray) (h : szT x ≤ 1099511627776) : smT x := h
theorem smz_L {T : Type} {c : T → Nat} {p : T → Prop} (h : ∀ x, c x ≤ 1099511627776 → p x) (l : List T) (hl : lenL c l ≤ 1099511627776) : smL p l := by
  unfold lenL at hl
  exact ⟨by omega, fun x hx => h x (by have := sumL_mem (c := c) hx; omega)⟩
theorem eqstep {p q : Prop} [Decidable p] [Decidable q] {X : Option Bool} (h : X = some (decide q)) : (bif !decide p then some false else X) = some (decide (p ∧ q)) := by
  by_cases hp : p
  · simp [hp, h]
  · simp [hp]

-- Loops of the laws

section
variable {T : Type} [Inhabited T]

theorem eqLoop [DecidableEq T] (a b : List T) (f : Int → Option (Lr Int (Sum Unit Unit))) (hl : a.length = b.length)
    (hgo : ∀ i : Nat, i < a.length → i < b.length → f i = bif decide (el a i = el b i) then some (.go ((i : Int) + 1)) else some (.out (.inr ()))) (hend : f (a.length : Int) = some (.out (.inl ()))) :
    iter f 0 = some (bif decide (a = b) then .inl () else .inr ()) := by
  have key : ∀ (q r p p' : List T), p ++ q = a → p' ++ r = b → p.length = p'.length → q.length = r.length → iter f (p.length : Int) = some (bif decide (q = r) then .inl () else .inr ()) := by
    intro q
    induction q with
    | nil =>
      intro r p p' ha hb h1 h2
      have : r = [] := List.eq_nil_of_length_eq_zero h2.symm
      subst this
      simp only [List.append_nil] at ha
      subst ha
      rw [iter_eq, hend]; rfl
    | cons x q ih =>
      intro r p p' ha hb h1 h2
      cases r with
      | nil => simp at h2
      | cons y r =>
        have ea : el a p.length = x := by rw [← ha]; exact el_mid p x q
        have eb : el b p.length = y := by rw [← hb, h1]; exact el_mid p' y r
        have la : p.length < a.length := by rw [← ha]; simp
        rw [iter_eq, hgo p.length la (hl ▸ la), ea, eb]
        by_cases hxy : x = y
        · subst hxy
          rw [cd_t rfl]
          show iter f _ = _
          have := ih r (p ++ [x]) (p' ++ [x]) (by simpa using ha) (by simpa using hb) (by simp [h1]) (by simpa using h2)
          rw [List.length_append, List.length_singleton] at this
          rw [show (p.length : Int) + 1 = ((p.length + 1 : Nat) : Int) by omega, this]
          simp
        · rw [cd_f hxy]
          simp [Lr.on, hxy]
  have := key a b [] [] rfl rfl rfl hl
  simpa using this

theorem toLoop (a : List T) (d : T) (f : Int × List T → Option (Lr (Int × List T) (List T)))
    (hgo : ∀ (i : Nat) (l : List T), i < a.length → i < l.length → f ((i : Int), l) = some (.go ((i : Int) + 1, l.set i (el a i)))) (hend : ∀ l, f ((a.length : Int), l) = some (.out l)) :
    iter f (0, List.replicate a.length d) = some a := by
  have key : ∀ (q p : List T), p ++ q = a → iter f ((p.length : Int), p ++ List.replicate q.length d) = some a := by
    intro q
    induction q with
    | nil =>
      intro p hp
      simp only [List.append_nil] at hp
      subst hp
      rw [iter_eq, hend]; simp [Lr.on]
    | cons x q ih =>
      intro p hp
      have la : p.length < a.length := by rw [← hp]; simp
      have ea : el a p.length = x := by rw [← hp]; exact el_mid p x q
      rw [iter_eq, hgo p.length _ la (by simp), ea, List.length_cons, List.replicate_succ, set_mid]
      show iter f _ = _
      have := ih (p ++ [x]) (by simpa using hp)
      rw [List.length_append, List.length_singleton, List.append_assoc] at this
      exact this
  exact key a [] rfl

theorem szLoop (c : T → Nat) (a : List T) (f : Int × Int → Option (Lr (Int × Int) (Sum Int Int)))
    (hgo : ∀ (i : Nat) (y : Int), i < a.length → 0 ≤ y → y ≤ 4611686018427387904 → f (y, (i : Int)) = if (c (el a i) : Int) ≤ y then some (.go (y - c (el a i), (i : Int) + 1)) else some (.out (.inr (-1)))) (hend : ∀ y, f (y, (a.length : Int)) = some (.out (.inl y))) (y : Int) (h0 : 0 ≤ y) (h1 : y ≤ 4611686018427387904) :
    iter f (y, 0) = some (if (sumL c a : Int) ≤ y then .inl (y - sumL c a) else .inr (-1)) := by
  have key : ∀ (q p : List T) (y : Int), p ++ q = a → 0 ≤ y → y ≤ 4611686018427387904 → iter f (y, (p.length : Int)) = some (if (sumL c q : Int) ≤ y then .inl (y - sumL c q) else .inr (-1)) := by
    intro q
    induction q with
    | nil =>
      intro p y hp hy _
      simp only [List.append_nil] at hp
      subst hp
      rw [iter_eq, hend]; simp [Lr.on, sumL, hy]
    | cons x q ih =>
      intro p y hp hy hy'
      have la : p.length < a.length := by rw [← hp]; simp
      have ea : el a p.length = x := by rw [← hp]; exact el_mid p x q
      rw [iter_eq, hgo p.length y la hy hy', ea]
      by_cases hc : (c x : Int) ≤ y
      · rw [if_pos hc]
        show iter f _ = _
        have := ih (p ++ [x]) (y - c x) (by simpa using hp) (by omega) (by omega)
        rw [List.length_append, List.length_singleton] at this
        rw [show (p.length : Int) + 1 = ((p.length + 1 : Nat) : Int) by omega, this]
        have hs : sumL c (x :: q) = c x + sumL c q := rfl
        by_cases h2 : (sumL c q : Int) ≤ y - c x
        · rw [if_pos h2, if_pos (by omega), hs]; congr 2; omega
        · rw [if_neg h2, if_neg (by omega)]
      · rw [if_neg hc]
        show some (Sum.inr (-1)) = _
        have hs : sumL c (x :: q) = c x + sumL c q := rfl
        rw [if_neg (by omega)]
  exact key a [] y rfl h0 h1

end
end Go.Proofs.YtjbonmmmcnpjiaaGreatDoor
