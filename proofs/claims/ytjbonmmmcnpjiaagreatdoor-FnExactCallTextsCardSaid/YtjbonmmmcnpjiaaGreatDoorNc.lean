/- The verification layer, part C (second layer): one rule for each kind of operation; calls; the entry into a function and its end. No condition. -/
import Derived.Test.YtjbonmmmcnpjiaaGreatDoorNb
namespace Go.Proofs.YtjbonmmmcnpjiaaGreatDoor
open Go.RowKit

section
variable {P : Program} {n : Nat} {env : Env} {w : World} {d : Option Tmp} {ty : TypeId} {pos : String} {af : Array Edge} {g : Option (Nat × Bool)}

theorem r_move {x : Operand} {v : Value} (hx : ev env x = some v) : Runs P n env w ⟨d, .move x, ty, pos, af, g⟩ v w := fun a ha => by simp [execOp, ha.ev hx]
theorem r_assign {x : Operand} {v : Value} (hx : ev env x = some v) : Runs P n env w ⟨d, .assign x, ty, pos, af, g⟩ v w := fun a ha => by simp [execOp, ha.ev hx]
theorem r_pick_t {c x y : Operand} {v : Value} (hc : ev env c = some (.bool true)) (hx : ev env x = some v) : Runs P n env w ⟨d, .pick c x y, ty, pos, af, g⟩ v w := fun a ha => by
  simp [execOp, ha.ev hc, ha.ev hx, asBool]
theorem r_pick_f {c x y : Operand} {v : Value} (hc : ev env c = some (.bool false)) (hy : ev env y = some v) : Runs P n env w ⟨d, .pick c x y, ty, pos, af, g⟩ v w := fun a ha => by
  simp [execOp, ha.ev hc, ha.ev hy, asBool]
theorem r_not {x : Operand} {t : TypeId} {b : Bool} (hx : ev env x = some (.bool b)) : Runs P n env w ⟨d, .unOp .not t x, ty, pos, af, g⟩ (.bool !b) w := fun a ha => by
  simp [execOp, ha.ev hx, Op.unary]

theorem i64_in {x : Int} (h : -9223372036854775808 ≤ x ∧ x ≤ 9223372036854775807) : IntKind.i64.wrap x = x := by
  have h1 : IntKind.i64.min = -9223372036854775808 := rfl
  exact IntWalk.i64_in _ h

theorem r_add {x y : Operand} {t u : TypeId} {i j : Int} (hx : ev env x = some (.int .i64 i)) (hy : ev env y = some (.int .i64 j)) (h : -9223372036854775808 ≤ i + j ∧ i + j ≤ 9223372036854775807) :
    Runs P n env w ⟨d, .binOp .add t x y u, ty, pos, af, g⟩ (.int .i64 (i + j)) w := fun a ha => by
  simp [execOp, ha.ev hx, ha.ev hy, eqGuard, binOp, Op.intArith, i64_in h]
theorem r_sub {x y : Operand} {t u : TypeId} {i j : Int} (hx : ev env x = some (.int .i64 i)) (hy : ev env y = some (.int .i64 j)) (h : -9223372036854775808 ≤ i - j ∧ i - j ≤ 9223372036854775807) :
    Runs P n env w ⟨d, .binOp .sub t x y u, ty, pos, af, g⟩ (.int .i64 (i - j)) w := fun a ha => by
  simp [execOp, ha.ev hx, ha.ev hy, eqGuard, binOp, Op.intArith, i64_in h]
theorem r_mul {x y : Operand} {t u : TypeId} {i j : Int} (hx : ev env x = some (.int .i64 i)) (hy : ev env y = some (.int .i64 j)) (h : -9223372036854775808 ≤ i * j ∧ i * j ≤ 9223372036854775807) :
    Runs P n env w ⟨d, .binOp .mul t x y u, ty, pos, af, g⟩ (.int .i64 (i * j)) w := fun a ha => by
  simp [execOp, ha.ev hx, ha.ev hy, eqGuard, binOp, Op.intArith, i64_in h]
theorem r_lss {x y : Operand} {t u : TypeId} {k : IntKind} {i j : Int} (hx : ev env x = some (.int k i)) (hy : ev env y = some (.int k j)) :
    Runs P n env w ⟨d, .binOp .lss t x y u, ty, pos, af, g⟩ (.bool (decide (i < j))) w := fun a ha => by
  simp [execOp, ha.ev hx, ha.ev hy, eqGuard, binOp, Op.intCmp]
theorem r_leq {x y : Operand} {t u : TypeId} {k : IntKind} {i j : Int} (hx : ev env x = some (.int k i)) (hy : ev env y = some (.int k j)) :
    Runs P n env w ⟨d, .binOp .leq t x y u, ty, pos, af, g⟩ (.bool (decide (i ≤ j))) w := fun a ha => by
  simp [execOp, ha.ev hx, ha.ev hy, eqGuard, binOp, Op.intCmp]
theorem r_gtr {x y : Operand} {t u : TypeId} {k : IntKind} {i j : Int} (hx : ev env x = some (.int k i)) (hy : ev env y = some (.int k j)) :
    Runs P n env w ⟨d, .binOp .gtr t x y u, ty, pos, af, g⟩ (.bool (decide (j < i))) w := fun a ha => by
  simp [execOp, ha.ev hx, ha.ev hy, eqGuard, binOp, Op.intCmp]
theorem r_geq {x y : Operand} {t u : TypeId} {k : IntKind} {i j : Int} (hx : ev env x = some (.int k i)) (hy : ev env y = some (.int k j)) :
    Runs P n env w ⟨d, .binOp .geq t x y u, ty, pos, af, g⟩ (.bool (decide (j ≤ i))) w := fun a ha => by
  simp [execOp, ha.ev hx, ha.ev hy, eqGuard, binOp, Op.intCmp]
theorem r_eql {x y : Operand} {t u : TypeId} {k : IntKind} {i j : Int} (hx : ev env x = some (.int k i)) (hy : ev env y = some (.int k j)) :
    Runs P n env w ⟨d, .binOp .eql t x y u, ty, pos, af, g⟩ (.bool (decide (i = j))) w := fun a ha => by
  simp [execOp, ha.ev hx, ha.ev hy, eqGuard, binOp, Op.intCmp]
  rfl
theorem r_neq {x y : Operand} {t u : TypeId} {k : IntKind} {i j : Int} (hx : ev env x = some (.int k i)) (hy : ev env y = some (.int k j)) :
    Runs P n env w ⟨d, .binOp .neq t x y u, ty, pos, af, g⟩ (.bool (!decide (i = j))) w := fun a ha => by
  simp [execOp, ha.ev hx, ha.ev hy, eqGuard, binOp, Op.intCmp]
  rfl
theorem run_eqIn_bool {t : TypeId} (k : Nat) (i j : Bool) (ht : P.underlying t = some .bool) (w : World) : (Op.equalIn (k + 1) t (.bool i) (.bool j)).run P w = .ok (i == j) w := by
  simp [Op.equalIn, run_underlying ht]
theorem r_eqlb {x y : Operand} {t u : TypeId} {i j : Bool} (ht : P.underlying t = some .bool) (hx : ev env x = some (.bool i)) (hy : ev env y = some (.bool j)) :
    Runs P n env w ⟨d, .binOp .eql t x y u, ty, pos, af, g⟩ (.bool (i == j)) w := fun a ha => by
  have h1 := run_eqIn_bool 9999 i j ht w
  simp only [execOp, ha.ev hx, ha.ev hy, eqGuard, binOp, Op.equal, Op.maxDepth, Sem.run_bind, Sem.run_pure]
  simp [h1]
theorem r_neqb {x y : Operand} {t u : TypeId} {i j : Bool} (ht : P.underlying t = some .bool) (hx : ev env x = some (.bool i)) (hy : ev env y = some (.bool j)) :
    Runs P n env w ⟨d, .binOp .neq t x y u, ty, pos, af, g⟩ (.bool (!(i == j))) w := fun a ha => by
  have h1 := run_eqIn_bool 9999 i j ht w
  simp only [execOp, ha.ev hx, ha.ev hy, eqGuard, binOp, Op.equal, Op.maxDepth, Sem.run_bind, Sem.run_pure]
  simp [h1]

theorem r_len {x : Operand} {t e : TypeId} {a0 : Option Addr} {l c : Nat} (ht : P.underlying t = some (.slice e)) (hx : ev env x = some (.slice a0 l c)) :
    Runs P n env w ⟨d, .call { callee := .builtin .len, args := #[x], argTypes := #[t] }, ty, pos, af, g⟩ (.int .i64 (l : Int)) w := fun a ha => by
  simp [execOp, resolve, invoke, builtin, ha.ev hx, Builtin.len_, run_underlying ht, goInt]
theorem r_lens {x : Operand} {t : TypeId} {s : ByteArray} (ht : P.underlying t = some .string) (hx : ev env x = some (.string s)) :
    Runs P n env w ⟨d, .call { callee := .builtin .len, args := #[x], argTypes := #[t] }, ty, pos, af, g⟩ (.int .i64 (s.size : Int)) w := fun a ha => by
  simp [execOp, resolve, invoke, builtin, ha.ev hx, Builtin.len_, run_underlying ht, goInt]

theorem r_extract {x : Operand} {i : Nat} {vs : Array Value} {v : Value} (hx : ev env x = some (.tuple vs)) (hv : vs[i]? = some v) :
    Runs P n env w ⟨d, .extract x i, ty, pos, af, g⟩ v w := fun a ha => by
  simp [execOp, ha.ev hx, Instr.extract, hv]

theorem r_nilck {x : Operand} {a0 : Addr} (hx : ev env x = some (.pointer (some a0))) : Runs P n env w ⟨d, .nilCheck x, ty, pos, af, g⟩ (.pointer (some a0)) w := fun a ha => by
  simp [execOp, ha.ev hx]

/-- What the table of types says of one type. -/
def Sz (P : Program) (t : TypeId) (size bytes : Nat) (z : Value) : Prop := (P.info? t).map (fun i => (i.zero, i.size, i.bytes)) = some (some z, size, bytes) ∧ z.cells.size = size ∧ 0 < size

theorem Sz.info {t : TypeId} {size bytes : Nat} {z : Value} (h : Sz P t size bytes z) : ∃ i, P.info? t = some i ∧ i.zero = some z ∧ i.size = size ∧ i.bytes = bytes := by
  obtain ⟨h, _, _⟩ := h
  cases hi : P.info? t with
  | none => simp [hi] at h
  | some i => simp [hi] at h; exact ⟨i, rfl, h.1, h.2.1, h.2.2⟩

theorem Sz.run {t : TypeId} {size bytes : Nat} {z : Value} (h : Sz P t size bytes z) (w : World) : (sizeOf t).run P w = .ok size w := by
  obtain ⟨i, h1, _, h3, _⟩ := h.info
  simp [sizeOf, typeInfo, h1, h3]

theorem Sz.zero {t : TypeId} {size bytes : Nat} {z : Value} (h : Sz P t size bytes z) (w : World) : (zeroValue t).run P w = .ok z w := by
  obtain ⟨i, h1, h2, _⟩ := h.info
  simp [zeroValue, typeInfo, h1, h2]

theorem r_ixo {x y : Operand} {t e : TypeId} {size bytes : Nat} {z : Value} {b len cap : Nat} {i : Int} (ht : P.underlying t = some (.slice e)) (hs : Sz P e size bytes z)
    (hx : ev env x = some (.slice (some ⟨b, 0, none⟩) len cap)) (hy : ev env y = some (.int .i64 i)) (h0 : 0 ≤ i ∧ i < (len : Int)) :
    Runs P n env w ⟨d, .indexAddr t x y, ty, pos, af, g⟩ (.pointer (some ⟨b, i.toNat * size, none⟩)) w := fun a ha => by
  simp [execOp, ha.ev hx, ha.ev hy, Instr.indexAt, run_underlying ht, asIntOf, h0, hs.run, Addr.add_lit]

/-- The address of a field. -/
theorem r_fld {x : Operand} {t : TypeId} {k off : Nat} {b o : Nat} {fs : Array Field} {f : Field} {size bytes : Nat} {z : Value} (ht : P.underlying t = some (.struct fs)) (hf : fs[k]? = some f) (ho : f.offset = off)
    (hs : Sz P f.type size bytes z) (hx : ev env x = some (.pointer (some ⟨b, o, none⟩))) :
    Runs P n env w ⟨d, .fieldAddr t x k, ty, pos, af, g⟩ (.pointer (some ⟨b, o + off, none⟩)) w := fun a ha => by
  have h0 : ¬ size = 0 := Nat.pos_iff_ne_zero.1 hs.2.2
  simp [execOp, ha.ev hx, Instr.fieldAt, run_underlying ht, hf, Instr.sureAddr, fieldPlace, hs.run, h0, ho, Addr.add_lit]

def noAgg : TypeDesc → Bool
  | .struct _ | .array _ _ => false
  | _ => true

/-- A load of one cell. -/
theorem r_ld {x : Operand} {t : TypeId} {a0 : Addr} {v : Value} {td : TypeDesc} (ht : P.underlying t = some td) (hn : noAgg td = true) (hx : ev env x = some (.pointer (some a0))) (hc : w.cell? a0 = some v) :
    Runs P n env w ⟨d, .load t x, ty, pos, af, g⟩ v w := fun a ha => by
  have hagg : (isAgg t).run P w = .ok false w := by
    simp only [isAgg, Sem.run_bind, run_underlying ht, Result.andThen_ok]
    cases td <;> first | rfl | cases hn
  simp only [execOp, ha.ev hx, Instr.loadAt, Instr.sureAddr, loadVar, Sem.run_bind, Sem.run_pure, Result.andThen_ok, hagg, Bool.false_eq_true, if_false, run_load, hc]

/-- A load of a whole struct. -/
theorem r_ldS {x : Operand} {t : TypeId} {a0 : Addr} {fs : Array Field} {size bytes : Nat} {z : Value} {cs : List Value} (ht : P.underlying t = some (.struct fs)) (hs : Sz P t size bytes z) (hx : ev env x = some (.pointer (some a0))) (hl : cs.length = size)
    (hc : ∀ (j : Nat) u, cs[j]? = some u → w.cell? (a0.add j) = some u) :
    Runs P n env w ⟨d, .load t x, ty, pos, af, g⟩ (.agg cs.toArray) w := fun a ha => by
  have h1 := run_loadCells_list (P := P) (w := w) a0 cs hc
  rw [hl] at h1
  simp [execOp, ha.ev hx, Instr.loadAt, Instr.sureAddr, loadVar, isAgg, run_underlying ht, hs.run, h1]


-- Results and calls

def RV (P : Program) (w : World) (env : Env) : ResultVar → Value → Prop
  | .tmp t, v => lk env t = some v
  | .cell a t, v => ∃ ad, lk env a = some (.pointer (some ad)) ∧ (loadVar t ad).run P w = .ok v w

def RVs (P : Program) (w : World) (env : Env) : List ResultVar → List Value → Prop
  | [], [] => True
  | r :: rs, v :: vs => RV P w env r v ∧ RVs P w env rs vs
  | _, _ => False

def resVal : List Value → Value
  | [v] => v
  | vs => .tuple vs.toArray

def rvSem (tmps : Array Value) : ResultVar → Sem Value
  | .tmp t => pure (tmps.getD t undef)
  | .cell a t => do loadVar t (← asAddr (tmps.getD a undef))

theorem run_rvSem {a : Act} (ha : Has n a env) {r : ResultVar} {v : Value} (h : RV P w env r v) : (rvSem a.tmps r).run P w = .ok v w := by
  cases r with
  | tmp t =>
    have := ha.at' t v h
    simp [rvSem, Array.getD_eq_getD_getElem?, this]
  | cell b t =>
    obtain ⟨ad, h2, h3⟩ := h
    have := ha.at' b _ h2
    simp [rvSem, Array.getD_eq_getD_getElem?, this, asAddr, h3]

theorem run_mapM_RVs {a : Act} (ha : Has n a env) : ∀ (rs : List ResultVar) (vs : List Value), RVs P w env rs vs → (rs.mapM (rvSem a.tmps)).run P w = .ok vs w
  | [], [], _ => by simp
  | r :: rs, v :: vs, h => by
    have ih := run_mapM_RVs ha rs vs h.2
    simp only [List.mapM_cons, Sem.run_bind, run_rvSem ha h.1, Result.andThen_ok, ih, Sem.run_pure]
  | [], _ :: _, h => h.elim
  | _ :: _, [], h => h.elim

theorem results_eq (fn : Func) (tmps : Array Value) : results fn tmps = (do
    let vs ← fn.results.mapM (rvSem tmps)
    pure (if h : vs.size = 1 then vs[0] else .tuple vs)) := by
  unfold results
  congr 1

theorem run_results {fn : Func} {a : Act} (ha : Has n a env) {vs : List Value} (h : RVs P w env fn.results.toList vs) : (results fn a.tmps).run P w = .ok (resVal vs) w := by
  have h1 := run_mapM_RVs (P := P) (w := w) ha _ _ h
  rw [results_eq, ← Array.toArray_toList (xs := fn.results), List.mapM_toArray]
  simp only [Sem.run_bind, Sem.run_map, h1, Result.andThen_ok, Sem.run_pure]
  congr 1
  match vs with
  | [] => rfl
  | [v] => rfl
  | v :: u :: r =>
    rw [dif_neg (by simp)]
    rfl

/-- The end of a function's body. -/
def fin (P : Program) (rs : List ResultVar) (K : Value → World → Prop) : Post := fun e env w => (e = .normal ∨ e = .ret) ∧ ∃ vs, RVs P w env rs vs ∧ K (resVal vs) w

theorem fin_ret {rs : List ResultVar} {K : Value → World → Prop} (vs : List Value) (h : RVs P w env rs vs) (hk : K (resVal vs) w) : fin P rs K .ret env w := ⟨.inr rfl, vs, h, hk⟩
theorem fin_end {rs : List ResultVar} {K : Value → World → Prop} (vs : List Value) (h : RVs P w env rs vs) (hk : K (resVal vs) w) : fin P rs K .normal env w := ⟨.inl rfl, vs, h, hk⟩

def Can (P : Program) (f : FuncId) : Prop := ∃ fn, P.funcs[f]? = some fn ∧ (fn.name == "runtime.NumGoroutine") = false ∧ fn.body.isNone = false

/-- A call that returns. -/
def Ret (P : Program) (f : FuncId) (vs : List Value) (w : World) (K : Value → World → Prop) : Prop :=
  Can P f ∧ Calls P f vs.toArray w (fun e w' => ∃ v, e = .returned v ∧ K v w')

theorem Ret.mono {f : FuncId} {vs : List Value} {K K' : Value → World → Prop} (h : Ret P f vs w K) (hk : ∀ v w', K v w' → K' v w') : Ret P f vs w K' :=
  ⟨h.1, h.2.mono fun _ _ ⟨v, e, k⟩ => ⟨v, e, hk _ _ k⟩⟩

def envOf : Nat → List Value → Env
  | _, [] => []
  | i, v :: r => (i, v) :: envOf (i + 1) r

theorem envOf_get : ∀ (vs : List Value) (i t : Nat) (v : Value), lk (envOf i vs) t = some v → i ≤ t ∧ vs[t - i]? = some v
  | [], _, _, _, h => by cases h
  | u :: r, i, t, v, h => by
    simp only [envOf, lk] at h
    by_cases e : i = t
    · subst e; simp at h; subst h; simp
    · rw [beq_ne e] at h
      have ih := envOf_get r (i + 1) t v h
      refine ⟨by omega, ?_⟩
      obtain ⟨k, hk⟩ : ∃ k, t - i = k + 1 := ⟨t - i - 1, by omega⟩
      rw [hk, List.getElem?_cons_succ]
      rw [show t - (i + 1) = k by omega] at ih
      exact ih.2

theorem enter {f : FuncId} {fn : Func} {c : Code} {vs : List Value} {K : Value → World → Prop} (hf : P.funcs[f]? = some fn) (hb : fn.body = some c) (hn : fn.ntmps = n) (hnm : (fn.name == "runtime.NumGoroutine") = false)
    (hl : Nat.ble vs.length n = true) (h : WC P n c (fin P fn.results.toList K) (envOf 0 vs) w) : Ret P f vs w K := by
  have hl' : vs.length ≤ n := by simpa using hl
  refine ⟨⟨fn, hf, hnm, by simp [hb]⟩, calls_of_wp hf hb ?_⟩
  refine wp_mono (h _ ⟨rfl, by simp [hn]; omega, fun t v ht => ?_⟩) fun e a' w' hq => ?_
  · have := envOf_get vs 0 t v ht
    simp only [Nat.sub_zero] at this
    rw [Array.getElem?_append_left (by have := (List.getElem?_eq_some_iff.1 this.2).1; simpa using this)]
    simpa using this.2
  · obtain ⟨env', ha', he, vs', hr, hk⟩ := hq
    have h1 := run_results ha' hr
    rcases he with rfl | rfl
    · exact ⟨ha'.df, _, h1, _, rfl, hk⟩
    · exact ⟨ha'.df, _, h1, _, rfl, hk⟩

def evs (env : Env) : List Operand → Option (List Value)
  | [] => some []
  | x :: r => match ev env x, evs env r with
    | some v, some vs => some (v :: vs)
    | _, _ => none

theorem Has.evs {a : Act} (ha : Has n a env) : ∀ (l : List Operand) (vs : List Value), evs env l = some vs → l.map a.eval = vs
  | [], vs, h => by simp only [Go.Proofs.YtjbonmmmcnpjiaaGreatDoor.evs, Option.some.injEq] at h; simp [← h]
  | x :: r, vs, h => by
    simp only [Go.Proofs.YtjbonmmmcnpjiaaGreatDoor.evs] at h
    split at h
    · rename_i v vs' h1 h2
      simp only [Option.some.injEq] at h
      rw [← h, List.map_cons, ha.ev h1, Has.evs ha r vs' h2]
    · cases h

variable {ops : Array Oper} {rest : List Oper} {Q : Post}

theorem w_call {d : Nat} {f : FuncId} {args : List Operand} {ats : Array TypeId} {vs : List Value} {K : Value → World → Prop} (hd : Nat.blt d n = true) (hv : evs env args = some vs) (hc : Ret P f vs w K)
    (h : ∀ v w', K v w' → WL P n ops rest Q ((d, v) :: env) w') : WL P n ops (⟨some d, .call { callee := .value (.func f), args := args.toArray, argTypes := ats }, ty, pos, af, none⟩ :: rest) Q env w := fun a ha =>
  wpList_plain rfl fun K' hK => by
    obtain ⟨⟨fn, hf, hnm, hb⟩, hcalls⟩ := hc
    have h1 : (execOp a.eval ⟨some d, .call { callee := .value (.func f), args := args.toArray, argTypes := ats }, ty, pos, af, none⟩).run P w = .ok (.enter f vs.toArray) w := by
      simp only [execOp, resolve, Act.eval, Deferred.ofValue, invoke, callFunc, Sem.run_bind, Sem.run_pure, Result.andThen_ok, run_program, hf, hnm, hb, List.map_toArray, ha.evs _ _ hv]
      simp
    unfold Oper.wp
    rw [h1]
    exact hcalls.mono fun e w' ⟨v, he, hk⟩ => by subst he; exact hK _ _ (h v w' hk _ (ha.put hd v))

theorem w_callg {d : Nat} {f : FuncId} {args : List Operand} {ats : Array TypeId} {vs : List Value} {K : Value → World → Prop} {j : Nat} {b : Bool} (hg : gd ops env j = some (.bool b)) (hd : Nat.blt d n = true) (hv : evs env args = some vs) (hc : Ret P f vs w K)
    (h : ∀ v w', K v w' → WL P n ops rest Q ((d, v) :: env) w') : WL P n ops (⟨some d, .call { callee := .value (.func f), args := args.toArray, argTypes := ats }, ty, pos, af, some (j, b)⟩ :: rest) Q env w := fun a ha => by
  unfold wpList
  rw [if_pos (by simp [Region.wanted, yielded_of ha hg])]
  refine .inl ?_
  obtain ⟨⟨fn, hf, hnm, hb⟩, hcalls⟩ := hc
  have h1 : (execOp a.eval ⟨some d, .call { callee := .value (.func f), args := args.toArray, argTypes := ats }, ty, pos, af, some (j, b)⟩).run P w = .ok (.enter f vs.toArray) w := by
    simp only [execOp, resolve, Act.eval, Deferred.ofValue, invoke, callFunc, Sem.run_bind, Sem.run_pure, Result.andThen_ok, run_program, hf, hnm, hb, List.map_toArray, ha.evs _ _ hv]
    simp
  unfold Oper.wp
  rw [h1]
  exact hcalls.mono fun e w' ⟨v, he, hk⟩ => by subst he; exact h v w' hk _ (ha.put hd v)

end
end Go.Proofs.YtjbonmmmcnpjiaaGreatDoor
