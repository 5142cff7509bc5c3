/- The second layer, part Q: strings. No condition. -/
import Derived.Test.YtjbonmmmcnpjiaaGreatDoorNp
import Derived.Laws.Strings
namespace Go.Proofs.YtjbonmmmcnpjiaaGreatDoor
open Go.RowKit

def sget (s : ByteArray) (i : Nat) : UInt8 := (s[i]?).getD 0
section
variable {P : Program} {n : Nat} {env : Env} {w : World} {ty : TypeId} {pos : String} {af : Array Edge} {d : Option Tmp} {g : Option (Nat × Bool)}
theorem r_sidx {x i : Operand} {t : TypeId} {s : ByteArray} {m : Int} (ht : P.underlying t = some .string) (hx : ev env x = some (.string s)) (hi : ev env i = some (.int .i64 m)) (h : 0 ≤ m ∧ m < (s.size : Int)) :
    Runs P n env w ⟨d, .index t x i, ty, pos, af, g⟩ (.int .u8 ((sget s m.toNat).toNat : Int)) w := fun a ha => by
  have hk : m.toNat < s.size := by omega
  have hs : s[m.toNat]? = some (sget s m.toNat) := by unfold sget; simp [hk]
  simp [execOp, ha.ev hx, ha.ev hi, Instr.index, asIntOf, run_underlying ht, h.1, hs]
theorem r_adds {x y : Operand} {t u : TypeId} {s r : ByteArray} (hx : ev env x = some (.string s)) (hy : ev env y = some (.string r)) (h : s.size + r.size ≤ 9223372036854775807) :
    Runs P n env w ⟨d, .binOp .add t x y u, ty, pos, af, g⟩ (.string (s ++ r)) w := fun a ha => by
  have h2 : ¬ IntKind.i64.max < ((s.size : Int) + (r.size : Int)) := by
    have h1 : IntKind.i64.max = 9223372036854775807 := rfl
    omega
  simp [execOp, ha.ev hx, ha.ev hy, eqGuard, binOp, Op.stringOp, h2]; omega
theorem ba_eq (a b : ByteArray) : (a.toList == b.toList) = decide (a = b) := by
  rw [ByteArray.toList_eq, ByteArray.toList_eq]
  by_cases h : a = b
  · subst h; simp
  · rw [decide_eq_false h]
    refine beq_eq_false_iff_ne.2 fun e => h ?_
    have := Array.toList_inj.1 e
    cases a; cases b; simp only at this; rw [this]
theorem r_eqls {x y : Operand} {t u : TypeId} {s r : ByteArray} (hx : ev env x = some (.string s)) (hy : ev env y = some (.string r)) :
    Runs P n env w ⟨d, .binOp .eql t x y u, ty, pos, af, g⟩ (.bool (decide (s = r))) w := fun a ha => by
  rw [← ba_eq]
  simp [execOp, ha.ev hx, ha.ev hy, eqGuard, binOp, Op.stringOp]
theorem r_neqs {x y : Operand} {t u : TypeId} {s r : ByteArray} (hx : ev env x = some (.string s)) (hy : ev env y = some (.string r)) :
    Runs P n env w ⟨d, .binOp .neq t x y u, ty, pos, af, g⟩ (.bool (!decide (s = r))) w := fun a ha => by
  rw [← ba_eq]
  simp [execOp, ha.ev hx, ha.ev hy, eqGuard, binOp, Op.stringOp]
/-- Texts in order. -/
def sLt (a b : ByteArray) : Bool := Op.bytesLess a.toList b.toList
theorem r_lsss {x y : Operand} {t u : TypeId} {s r : ByteArray} (hx : ev env x = some (.string s)) (hy : ev env y = some (.string r)) :
    Runs P n env w ⟨d, .binOp .lss t x y u, ty, pos, af, g⟩ (.bool (sLt s r)) w := fun a ha => by
  simp [execOp, ha.ev hx, ha.ev hy, eqGuard, binOp, Op.stringOp, sLt]
theorem r_geqs {x y : Operand} {t u : TypeId} {s r : ByteArray} (hx : ev env x = some (.string s)) (hy : ev env y = some (.string r)) :
    Runs P n env w ⟨d, .binOp .geq t x y u, ty, pos, af, g⟩ (.bool (!sLt s r)) w := fun a ha => by
  simp [execOp, ha.ev hx, ha.ev hy, eqGuard, binOp, Op.stringOp, sLt]
end
end Go.Proofs.YtjbonmmmcnpjiaaGreatDoor
