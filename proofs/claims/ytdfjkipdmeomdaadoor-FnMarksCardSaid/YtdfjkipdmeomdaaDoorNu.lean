/- The second layer, part U: structs of three numbers, compared. No condition. -/
import Derived.Test.YtdfjkipdmeomdaaDoorNs
import Derived.Test.YtdfjkipdmeomdaaDoorTy3
import Derived.Laws.StructEq
namespace Go.Proofs.YtdfjkipdmeomdaaDoor
open Go.RowKit

section
variable {P : Program} {n : Nat} {env : Env} {w : World} {d : Option Tmp} {ty : TypeId} {pos : String} {af : Array Edge} {g : Option (Nat × Bool)}
def fl3 (P : Program) (t e : TypeId) : Bool := match (P.fieldsOf t).toList with
  | [f, g, h] => ((f.name != "_" && (f.type == e && f.offset == 0)) && (g.name != "_" && (g.type == e && g.offset == 1))) && (h.name != "_" && (h.type == e && h.offset == 2))
  | _ => false
theorem run_eq3 {t e : TypeId} (hS : P.underlying t = some (.struct (P.fieldsOf t))) (hp : P.stoodInHeld t = false) (hf : fl3 P t e = true) (he : P.underlying e = some (.int .i64)) (k : Nat) (a b c a' b' c' : Int) (w : World) :
    (Op.equalIn (k + 2) t (.agg #[.int .i64 a, .int .i64 b, .int .i64 c]) (.agg #[.int .i64 a', .int .i64 b', .int .i64 c'])).run P w = .ok ((decide (a = a') && decide (b = b')) && decide (c = c')) w := by
  rw [run_equalIn_struct w (k + 1) t _ _ hS hp]
  unfold fl3 at hf
  split at hf
  · rename_i f g h hl
    simp only [Bool.and_eq_true, bne_iff_ne, beq_iff_eq] at hf
    obtain ⟨⟨⟨f1, f2, f3⟩, g1, g2, g3⟩, h1, h2, h3⟩ := hf
    have q : ∀ (i j : Int) (w : World), (Op.equalIn (k + 1) e (.int .i64 i) (.int .i64 j)).run P w = .ok (decide (i = j)) w := fun i j w => by rw [run_equalIn_int w k e .i64 .i64 i j he]; rfl
    have pt : ∀ (cs : Array Value) (o : Nat) (v : Value) (w : World), cs[o]? = some v → (part e cs o).run P w = .ok v w := fun cs o v w hv => by simp [part, ag_int he, hv]
    rw [hl]
    simp only [Op.eqFields, if_pos f1, if_pos g1, if_pos h1, f2, f3, g2, g3, h2, h3, Sem.run_bind]
    rw [pt _ 0 (.int .i64 a) w rfl, Result.andThen_ok, pt _ 0 (.int .i64 a') w rfl, Result.andThen_ok, q, Result.andThen_ok]
    by_cases e1 : a = a'
    · rw [decide_eq_true e1, Bool.not_true, if_neg (by simp), Sem.run_bind, pt _ 1 (.int .i64 b) w rfl, Result.andThen_ok, Sem.run_bind, pt _ 1 (.int .i64 b') w rfl, Result.andThen_ok, Sem.run_bind, q, Result.andThen_ok]
      by_cases e2 : b = b'
      · rw [decide_eq_true e2, Bool.not_true, if_neg (by simp), Sem.run_bind, pt _ 2 (.int .i64 c) w rfl, Result.andThen_ok, Sem.run_bind, pt _ 2 (.int .i64 c') w rfl, Result.andThen_ok, Sem.run_bind, q, Result.andThen_ok]
        by_cases e3 : c = c'
        · rw [decide_eq_true e3, Bool.not_true, if_neg (by simp), Sem.run_pure]; rfl
        · rw [decide_eq_false e3, Bool.not_false, if_pos rfl, Sem.run_pure]; rfl
      · rw [decide_eq_false e2, Bool.not_false, if_pos rfl, Sem.run_pure]; rfl
    · rw [decide_eq_false e1, Bool.not_false, if_pos rfl, Sem.run_pure]; rfl
  · cases hf
theorem r_neq3 {x y : Operand} {t u e : TypeId} {a b c a' b' c' : Int} (hS : P.underlying t = some (.struct (P.fieldsOf t))) (hp : P.stoodInHeld t = false) (hg : P.eqGuardType P.depth t = false) (hf : fl3 P t e = true) (he : P.underlying e = some (.int .i64))
    (hx : ev env x = some (.agg #[.int .i64 a, .int .i64 b, .int .i64 c])) (hy : ev env y = some (.agg #[.int .i64 a', .int .i64 b', .int .i64 c'])) :
    Runs P n env w ⟨d, .binOp .neq t x y u, ty, pos, af, g⟩ (.bool (!((decide (a = a') && decide (b = b')) && decide (c = c')))) w := fun r hr => by
  simp only [execOp, hr.ev hx, hr.ev hy, Sem.run_bind, run_eqGuard_agg w .neq t x y _ _ hg, Result.andThen_ok, run_neq_struct, run_eq3 hS hp hf he 9998, Sem.run_pure]
theorem r_eql3 {x y : Operand} {t u e : TypeId} {a b c a' b' c' : Int} (hS : P.underlying t = some (.struct (P.fieldsOf t))) (hp : P.stoodInHeld t = false) (hg : P.eqGuardType P.depth t = false) (hf : fl3 P t e = true) (he : P.underlying e = some (.int .i64))
    (hx : ev env x = some (.agg #[.int .i64 a, .int .i64 b, .int .i64 c])) (hy : ev env y = some (.agg #[.int .i64 a', .int .i64 b', .int .i64 c'])) :
    Runs P n env w ⟨d, .binOp .eql t x y u, ty, pos, af, g⟩ (.bool ((decide (a = a') && decide (b = b')) && decide (c = c'))) w := fun r hr => by
  simp only [execOp, hr.ev hx, hr.ev hy, Sem.run_bind, run_eqGuard_agg w .eql t x y _ _ hg, Result.andThen_ok, run_eql_struct, run_eq3 hS hp hf he 9998, Sem.run_pure]
end
section
variable {P : Program} {n : Nat} {env : Env} {w : World} {ty : TypeId} {pos : String} {af : Array Edge} {w0 : Base} {m : List As} {rs : List Rd} {T : Type} {f : T → List Ce}
/-- Appending to a nil row makes a new one: nothing old is written. -/
theorem x_appendN {K : Value → World → Prop} {d : Nat} {x y : Operand} {t e : TypeId} {size bytes : Nat} {z xv : Value} {M : List T} {S : Bs} (ht : P.underlying t = some (.slice e)) (hs : Sz P e size bytes z) (hx : ev env x = some xv) (hsv : ev env y = some nS.v)
    (hsrc : (cSl size f M).rd S w xv) (hfl : FlatE f) (hM : St w0 (oC (cSl size f ([] : List T)) nS.v :: m) rs w) (h40 : 0 + M.length ≤ 1099511627776) (hby : Nat.ble bytes 127 = true)
    (h : ∀ (s' : Sv) w', Rel w w' → St w0 (oC (cSl size f ([] ++ M)) s'.v :: m) rs w' → K (s'.v) w') :
    Ex P n env w ⟨some d, .call { callee := .builtin .append, args := #[y, x], argTypes := #[t, t] }, ty, pos, af, none⟩ K := by
  obtain ⟨xs, h1, h2⟩ := Cs.src ht hsrc
  have hby' : bytes ≤ 127 := by simpa using hby
  have hbb : (0 + M.length) * bytes ≤ 140737488355328 := by
    have := Nat.mul_le_mul h40 hby'
    omega
  obtain ⟨s', w', hr, h3⟩ := St.app (tyy := ty) (own := []) (M := M) (L := ([] : List T)) ht hs hM h1 rfl (rdAll_len h2).symm (flat_cells hfl (fun c hc => by
    obtain ⟨a, _, ha⟩ := List.mem_flatMap.1 hc
    exact hfl a c ha) h2 w) (by simp only [maxLen, List.length_nil]; omega) (by simpa using hbb)
  obtain ⟨i, hi, hz, hsz, hbt⟩ := hs.info
  subst hsz
  have hrel : Rel w w' := by
    by_cases hn : M.length = 0
    · have hk := h1.kind
      have hc := h1.cells
      have hl := h1.len
      rw [hn] at hc hl
      have hr2 := hr
      rw [show (#[nS.v, xv] : Array Value) = #[.slice none 0 0, xv] from rfl] at hr2
      have : s'.v = nS.v ∧ w' = w := by
        rcases hk with ⟨e2, hk⟩ | hk <;> (simp [Builtin.append_, run_underlying ht, run_underlying hk, sizeOf, typeInfo, hi, hc, hl] at hr2; exact ⟨hr2.1.symm, hr2.2.symm⟩)
      rw [this.2]
      exact Rel.refl w
    · have hr2 := run_append_grow_src (P := P) w t t ty e i z ht hi hz none 0 0 [] (run_firstCells_none _ _ _ _ _) xv M.length xs h1 (by omega) (by omega) (by rw [hbt]; exact growslice_fits (by omega) hbb)
      rw [show (#[nS.v, xv] : Array Value) = #[.slice none 0 0, xv] from rfl, hr2] at hr
      obtain ⟨_, rfl⟩ : _ ∧ (w.drew.alloc (.cells (([] ++ xs).toArray ++ Builtin.zeroCells z.cells (grownCap w (0 + M.length) 0 e - (0 + M.length))) e)) = w' := by simpa using hr
      exact (Rel.refl w).drew.trans (Rel.alloc _ _)
  refine exI (v := s'.v) (w' := w') (fun a ha => ?_) (h s' w' hrel h3)
  simp [execOp, resolve, invoke, builtin, ha.ev hsv, ha.ev hx, hr]
end
end Go.Proofs.YtdfjkipdmeomdaaDoor
