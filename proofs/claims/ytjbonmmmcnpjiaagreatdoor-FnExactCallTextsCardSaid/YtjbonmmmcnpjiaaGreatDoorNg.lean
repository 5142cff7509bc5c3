/- The second layer, part G: frames of code. No condition. -/
import Derived.Test.YtjbonmmmcnpjiaaGreatDoorNf
namespace Go.Proofs.YtjbonmmmcnpjiaaGreatDoor
open Go.RowKit

section
variable {P : Program} {n : Nat} {Q : Post} {env : Env} {w : World} {c : Code} {i id : Nat}

theorem sq_n (h : WC P n c Q env w) : sq P n c Q .normal env w := h
theorem sq_ret (h : Q .ret env w) : sq P n c Q .ret env w := h
theorem sq_exit (h : Q (.exit i) env w) : sq P n c Q (.exit i) env w := h
theorem bk_n (h : Q .normal env w) : bk id Q .normal env w := h
theorem bk_ret (h : Q .ret env w) : bk id Q .ret env w := h
theorem bk_here (h : Q .normal env w) : bk id Q (.exit id) env w := by simpa [bk] using h
theorem bk_exit (hn : Nat.beq i id = false) (h : Q (.exit i) env w) : bk id Q (.exit i) env w := by simp only [bk, hn, cond_false]; exact h
theorem lp1_ret {α : Type} {E : α → Env} {Φ : α → World → Prop} {μ : α → Nat} {x : α} (h : Q .ret env w) : lp E Φ μ x Q .ret env w := h
theorem lp1_exit {α : Type} {E : α → Env} {Φ : α → World → Prop} {μ : α → Nat} {x : α} (h : Q (.exit i) env w) : lp E Φ μ x Q (.exit i) env w := h
end

theorem tup2 {a b c d : Value} (h : a = c) (k : b = d) : resVal [a, b] = .tuple #[c, d] := by rw [h, k]; rfl
theorem tup3 {a b c d e f : Value} (h : a = d) (k : b = e) (l : c = f) : resVal [a, b, c] = .tuple #[d, e, f] := by rw [h, k, l]; rfl
theorem vbool {a b : Bool} (h : a = b) : Value.bool a = .bool b := by rw [h]
theorem vint {a b : Int} {k : IntKind} (h : a = b) : Value.int k a = .int k b := by rw [h]

end Go.Proofs.YtjbonmmmcnpjiaaGreatDoor
