/- The verification layer, part I: numbers beyond their bounds, bits, division; what a call gives back. No condition. -/
import Derived.Test.YtjbonmmmcnpjiaaGreatDoorNg
namespace Go.Proofs.YtjbonmmmcnpjiaaGreatDoor
open Go.RowKit

def iw (x : Int) : Int := IntKind.i64.wrap x
def bAnd (x y : Int) : Int := IntKind.i64.wrap ((BitVec.ofInt 64 x &&& BitVec.ofInt 64 y).toNat : Int)
def bXor (x y : Int) : Int := IntKind.i64.wrap ((BitVec.ofInt 64 x ^^^ BitVec.ofInt 64 y).toNat : Int)
def bShr (x y : Int) : Int := x.fdiv (2 ^ (min y.toNat 64))

theorem bAnd_range (x y : Int) (h : 0 ≤ y ∧ y ≤ 9223372036854775807) : 0 ≤ bAnd x y ∧ bAnd x y ≤ y := by
  have h1 : (BitVec.ofInt 64 x &&& BitVec.ofInt 64 y).toNat ≤ y.toNat := by
    rw [BitVec.toNat_and]
    refine Nat.le_trans Nat.and_le_right ?_
    rw [BitVec.toNat_ofInt]
    omega
  have h2 : IntKind.i64.wrap ((BitVec.ofInt 64 x &&& BitVec.ofInt 64 y).toNat : Int) = ((BitVec.ofInt 64 x &&& BitVec.ofInt 64 y).toNat : Int) := i64_in (by omega)
  unfold bAnd
  rw [h2]
  omega

section
variable {P : Program} {n : Nat} {env : Env} {w : World} {d : Option Tmp} {ty : TypeId} {pos : String} {af : Array Edge} {g : Option (Nat × Bool)}

theorem r_addw {x y : Operand} {t u : TypeId} {i j : Int} (hx : ev env x = some (.int .i64 i)) (hy : ev env y = some (.int .i64 j)) :
    Runs P n env w ⟨d, .binOp .add t x y u, ty, pos, af, g⟩ (.int .i64 (iw (i + j))) w := fun a ha => by
  simp [execOp, ha.ev hx, ha.ev hy, eqGuard, binOp, Op.intArith, iw]
theorem r_mulw {x y : Operand} {t u : TypeId} {i j : Int} (hx : ev env x = some (.int .i64 i)) (hy : ev env y = some (.int .i64 j)) :
    Runs P n env w ⟨d, .binOp .mul t x y u, ty, pos, af, g⟩ (.int .i64 (iw (i * j))) w := fun a ha => by
  simp [execOp, ha.ev hx, ha.ev hy, eqGuard, binOp, Op.intArith, iw]
theorem r_and {x y : Operand} {t u : TypeId} {i j : Int} (hx : ev env x = some (.int .i64 i)) (hy : ev env y = some (.int .i64 j)) :
    Runs P n env w ⟨d, .binOp .and t x y u, ty, pos, af, g⟩ (.int .i64 (bAnd i j)) w := fun a ha => by
  simp [execOp, ha.ev hx, ha.ev hy, eqGuard, binOp, Op.intBits, bAnd, IntKind.bits, -BitVec.toNat_and, -BitVec.toNat_ofInt]; rfl
theorem r_xor {x y : Operand} {t u : TypeId} {i j : Int} (hx : ev env x = some (.int .i64 i)) (hy : ev env y = some (.int .i64 j)) :
    Runs P n env w ⟨d, .binOp .xor t x y u, ty, pos, af, g⟩ (.int .i64 (bXor i j)) w := fun a ha => by
  simp [execOp, ha.ev hx, ha.ev hy, eqGuard, binOp, Op.intBits, bXor, IntKind.bits, -BitVec.toNat_xor, -BitVec.toNat_ofInt]; rfl
theorem r_shr {x y : Operand} {t u : TypeId} {k : IntKind} {i j : Int} (hx : ev env x = some (.int .i64 i)) (hy : ev env y = some (.int k j)) (hj : 0 ≤ j) :
    Runs P n env w ⟨d, .binOp .shr t x y u, ty, pos, af, g⟩ (.int .i64 (bShr i j)) w := fun a ha => by
  simp [execOp, ha.ev hx, ha.ev hy, eqGuard, binOp, Op.shift, bShr, IntKind.bits, show ¬ j < 0 by omega]
theorem r_rem {x y : Operand} {t u : TypeId} {i j : Int} (hx : ev env x = some (.int .i64 i)) (hy : ev env y = some (.int .i64 j)) (h : 0 ≤ i ∧ 0 < j) :
    Runs P n env w ⟨d, .binOp .rem t x y u, ty, pos, af, g⟩ (.int .i64 (i % j)) w := fun a ha => by
  simp [execOp, ha.ev hx, ha.ev hy, eqGuard, binOp, Op.intDiv, show ¬ j = 0 by omega, Int.tmod_eq_emod_of_nonneg h.1]
theorem r_quo {x y : Operand} {t u : TypeId} {i j : Int} (hx : ev env x = some (.int .i64 i)) (hy : ev env y = some (.int .i64 j)) (h : 0 ≤ i ∧ i ≤ 9223372036854775807 ∧ 0 < j) :
    Runs P n env w ⟨d, .binOp .quo t x y u, ty, pos, af, g⟩ (.int .i64 (i / j)) w := fun a ha => by
  have h1 : 0 ≤ i / j := Int.ediv_nonneg h.1 (by omega)
  have h2 : i / j ≤ i := Int.ediv_le_self _ h.1
  simp [execOp, ha.ev hx, ha.ev hy, eqGuard, binOp, Op.intDiv, show ¬ j = 0 by omega, Int.tdiv_eq_ediv_of_nonneg h.1, i64_in (x := i / j) (by omega)]
/-- A small number in another kind. -/
theorem r_cvt {x : Operand} {s t : TypeId} {k k' : IntKind} {td : TypeDesc} {i : Int} (hs : P.underlying s = some td) (ht : P.underlying t = some (.int k)) (hx : ev env x = some (.int k' i)) (h : k.wrap i = i) :
    Runs P n env w ⟨d, .convert s t x, ty, pos, af, g⟩ (.int k i) w := fun a ha => by
  simp [execOp, ha.ev hx, convert, run_underlying hs, run_underlying ht, Conv.intToInt, h]

end

section
variable {P : Program} {n : Nat} {env : Env} {w : World} {ty : TypeId} {pos : String} {af : Array Edge} {ops : Array Oper} {rest : List Oper} {Q : Post}
/-- A call of a function value: what it has caught stands behind the arguments. -/
theorem w_callv {d : Nat} {f : FuncId} {x : Operand} {cap : List Value} {args : List Operand} {ats : Array TypeId} {vs : List Value} {K : Value → World → Prop} (hx : ev env x = some (.func (.func f) #[] cap.toArray)) (hd : Nat.blt d n = true) (hv : evs env args = some vs) (hc : Ret P f (vs ++ cap) w K)
    (h : ∀ v w', K v w' → WL P n ops rest Q ((d, v) :: env) w') : WL P n ops (⟨some d, .call { callee := .value x, args := args.toArray, argTypes := ats }, ty, pos, af, none⟩ :: rest) Q env w := fun a ha =>
  wpList_plain rfl fun K' hK => by
    obtain ⟨⟨fn, hf, hnm, hb⟩, hcalls⟩ := hc
    have h1 : (execOp a.eval ⟨some d, .call { callee := .value x, args := args.toArray, argTypes := ats }, ty, pos, af, none⟩).run P w = .ok (.enter f (vs ++ cap).toArray) w := by
      simp only [execOp, resolve, ha.ev hx, Deferred.ofValue, invoke, callFunc, Sem.run_bind, Sem.run_pure, Result.andThen_ok, run_program, hf, hnm, hb, List.map_toArray, ha.evs _ _ hv]
      simp
    unfold Oper.wp
    rw [h1]
    exact hcalls.mono fun e w' ⟨v, he, hk⟩ => by subst he; exact hK _ _ (h v w' hk _ (ha.put hd v))
end

/-- A slice value. -/
structure Sv where
  p : Option Addr
  n : Nat
  c : Nat
def Sv.v (s : Sv) : Value := .slice s.p s.n s.c

end Go.Proofs.YtjbonmmmcnpjiaaGreatDoor
