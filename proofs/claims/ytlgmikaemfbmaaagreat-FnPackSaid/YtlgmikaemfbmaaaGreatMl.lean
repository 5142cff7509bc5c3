/- Plain laws: loops that copy, compare, weigh, mark and look at data. No condition. -/
import Derived.Test.YtlgmikaemfbmaaaGreatNs
namespace Go.Proofs.YtlgmikaemfbmaaaGreat

section
variable {α : Type}
theorem xg_of {p : Prop} [Decidable p] {x : Option α} (h : p) : xg p x = x := if_pos h
theorem xg_I {n : Int} {x : Option α} (h : -9223372036854775808 ≤ n) (k : n ≤ 9223372036854775807) : xg (inI n) x = x := if_pos ⟨h, k⟩
theorem cd_t {p : Prop} [Decidable p] {x y : α} (h : p) : (bif decide p then x else y) = x := by rw [decide_eq_true h]; rfl
theorem cd_f {p : Prop} [Decidable p] {x y : α} (h : ¬ p) : (bif decide p then x else y) = y := by rw [decide_eq_false h]; rfl
theorem cd_n {c : Bool} {x y : α} : (bif !c then x else y) = (bif c then y else x) := by cases c <;> rfl
theorem cd_T {x y : α} : (bif true then x else y) = x := rfl
theorem cd_F {x y : α} : (bif false then x else y) = y := rfl
end

section
variable {T : Type} [Inhabited T]
theorem el_set {l : List T} {i : Nat} {y : T} (h : i < l.length) : el (l.set i y) i = y := by unfold el; simp [List.getD_eq_getElem?_getD, h]
theorem el_mid (p : List T) (x : T) (l : List T) : el (p ++ x :: l) p.length = x := by unfold el; simp [List.getD_eq_getElem?_getD]
theorem el_mem {l : List T} {i : Nat} (h : i < l.length) : el l i ∈ l := by rw [el_eq h]; exact List.getElem_mem h
end

-- Sizes

/- what any argument keeps -/
def wfY (_ : UInt8) : Prop := True
def wfL {T : Type} (p : T → Prop) (l : List T) : Prop := l.length ≤ 9223372036854775807 ∧ ∀ x ∈ l, p x
/- small -/
def smI (_ : Int) : Prop := True
def smT (s : ByteArray) : Prop := s.size ≤ 1099511627776
def smL {T : Type} (p : T → Prop) (l : List T) : Prop := l.length ≤ 1099511627776 ∧ ∀ x ∈ l, p x

def sumL {T : Type} (c : T → Nat) : List T → Nat
  | [] => 0
  | x :: l => c x + sumL c l

theorem sumL_mem {T : Type} {c : T → Nat} : ∀ {l : List T} {x : T}, x ∈ l → c x ≤ sumL c l
  | y :: l, x, h => by
    rcases List.mem_cons.1 h with rfl | h
    · simp only [sumL]; omega
    · have := sumL_mem (c := c) h; simp only [sumL]; omega
def lenL {T : Type} (c : T → Nat) (l : List T) : Nat := l.length + sumL c l
theorem lenL_eq {T : Type} (c : T → Nat) (l : List T) : lenL c l = l.length + sumL c l := rfl
theorem lenL_z {T : Type} {c : T → Nat} (h : ∀ x, c x = 0) (l : List T) : lenL c l = l.length := by
  have : sumL c l = 0 := by
    induction l with
    | nil => rfl
    | cons x l ih => simp only [sumL, h, ih]
  unfold lenL; omega
def szI (_ : Int) : Nat := 0
theorem smz_I (x : Int) (_ : szI x ≤ 1099511627776) : smI x := trivial
theorem smz_L {T : Type} {c : T → Nat} {p : T → Prop} (h : ∀ x, c x ≤ 1099511627776 → p x) (l : List T) (hl : lenL c l ≤ 1099511627776) : smL p l := by
  unfold lenL at hl
  exact ⟨by omega, fun x hx => h x (by have := sumL_mem (c := c) hx; omega)⟩
-- Loops of the laws

section
variable {T : Type} [Inhabited T]

end
end Go.Proofs.YtlgmikaemfbmaaaGreat
