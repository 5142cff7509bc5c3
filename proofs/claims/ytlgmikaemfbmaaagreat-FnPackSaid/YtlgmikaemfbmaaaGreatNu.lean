/- The second layer, part U: structs of three numbers, compared. No condition. -/
import Derived.Test.YtlgmikaemfbmaaaGreatNs
import Derived.Test.YtlgmikaemfbmaaaGreatTy3
import Derived.Laws.StructEq
namespace Go.Proofs.YtlgmikaemfbmaaaGreat
open Go.RowKit

section
variable {P : Program} {n : Nat} {env : Env} {w : World} {d : Option Tmp} {ty : TypeId} {pos : String} {af : Array Edge} {g : Option (Nat × Bool)}
def fl3 (P : Program) (t e : TypeId) : Bool := match (P.fieldsOf t).toList with
  | [f, g, h] => ((f.name != "_" && (f.type == e && f.offset == 0)) && (g.name != "_" && (g.type == e && g.offset == 1))) && (h.name != "_" && (h.type == e && h.offset == 2))
  | _ => false
theorem run_eq3 {t e : TypeId} (hS : P.underlying t = some (.struct (P.fieldsOf t))) (hp : P.stoodInHeld t = false) (hf : fl3 P t e = true) (he : P.underlying e = some (.int .i64)) (k : Nat) (a b c a' b' c' : Int) (w : World) :
    (Op.equalIn (k + 2) t (.agg #[.int .i64 a, .int .i64 b, .int .i64 c]) (.agg #[.int .i64 a', .int .i64 b', .int .i64 c'])).run P w = .ok ((decide (a = a') && decide (b = b')) && decide (c = c')) w := by
  rw [run_equalIn_struct w (k + 1) t _ _ hS hp]
  unfold fl3 at hf
  split at hf
  · rename_i f g h hl
    simp only [Bool.and_eq_true, bne_iff_ne, beq_iff_eq] at hf
    obtain ⟨⟨⟨f1, f2, f3⟩, g1, g2, g3⟩, h1, h2, h3⟩ := hf
    have q : ∀ (i j : Int) (w : World), (Op.equalIn (k + 1) e (.int .i64 i) (.int .i64 j)).run P w = .ok (decide (i = j)) w := fun i j w => by rw [run_equalIn_int w k e .i64 .i64 i j he]; rfl
    have pt : ∀ (cs : Array Value) (o : Nat) (v : Value) (w : World), cs[o]? = some v → (part e cs o).run P w = .ok v w := fun cs o v w hv => by simp [part, ag_int he, hv]
    rw [hl]
    simp only [Op.eqFields, if_pos f1, if_pos g1, if_pos h1, f2, f3, g2, g3, h2, h3, Sem.run_bind]
    rw [pt _ 0 (.int .i64 a) w rfl, Result.andThen_ok, pt _ 0 (.int .i64 a') w rfl, Result.andThen_ok, q, Result.andThen_ok]
    by_cases e1 : a = a'
    · rw [decide_eq_true e1, Bool.not_true, if_neg (by simp), Sem.run_bind, pt _ 1 (.int .i64 b) w rfl, Result.andThen_ok, Sem.run_bind, pt _ 1 (.int .i64 b') w rfl, Result.andThen_ok, Sem.run_bind, q, Result.andThen_ok]
      by_cases e2 : b = b'
      · rw [decide_eq_true e2, Bool.not_true, if_neg (by simp), Sem.run_bind, pt _ 2 (.int .i64 c) w rfl, Result.andThen_ok, Sem.run_bind, pt _ 2 (.int .i64 c') w rfl, Result.andThen_ok, Sem.run_bind, q, Result.andThen_ok]
        by_cases e3 : c = c'
        · rw [decide_eq_true e3, Bool.not_true, if_neg (by simp), Sem.run_pure]; rfl
        · rw [decide_eq_false e3, Bool.not_false, if_pos rfl, Sem.run_pure]; rfl
      · rw [decide_eq_false e2, Bool.not_false, if_pos rfl, Sem.run_pure]; rfl
    · rw [decide_eq_false e1, Bool.not_false, if_pos rfl, Sem.run_pure]; rfl
  · cases hf
theorem r_neq3 {x y : Operand} {t u e : TypeId} {a b c a' b' c' : Int} (hS : P.underlying t = some (.struct (P.fieldsOf t))) (hp : P.stoodInHeld t = false) (hg : P.eqGuardType P.depth t = false) (hf : fl3 P t e = true) (he : P.underlying e = some (.int .i64))
    (hx : ev env x = some (.agg #[.int .i64 a, .int .i64 b, .int .i64 c])) (hy : ev env y = some (.agg #[.int .i64 a', .int .i64 b', .int .i64 c'])) :
    Runs P n env w ⟨d, .binOp .neq t x y u, ty, pos, af, g⟩ (.bool (!((decide (a = a') && decide (b = b')) && decide (c = c')))) w := fun r hr => by
  simp only [execOp, hr.ev hx, hr.ev hy, Sem.run_bind, run_eqGuard_agg w .neq t x y _ _ hg, Result.andThen_ok, run_neq_struct, run_eq3 hS hp hf he 9998, Sem.run_pure]
end
section
variable {P : Program} {n : Nat} {env : Env} {w : World} {ty : TypeId} {pos : String} {af : Array Edge} {w0 : Base} {m : List As} {rs : List Rd} {T : Type} {f : T → List Ce}
end
end Go.Proofs.YtlgmikaemfbmaaaGreat
