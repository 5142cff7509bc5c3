/- The verification layer, part I: numbers beyond their bounds, bits, division; what a call gives back. No condition. -/
import Derived.Test.YthnnhoabdhhkaaaVlH
namespace Go.Proofs.Ythnnhoabdhhkaaa
open Go.RowKit

def iw (x : Int) : Int := IntKind.i64.wrap x
def bAnd (x y : Int) : Int := IntKind.i64.wrap ((BitVec.ofInt 64 x &&& BitVec.ofInt 64 y).toNat : Int)
def bXor (x y : Int) : Int := IntKind.i64.wrap ((BitVec.ofInt 64 x ^^^ BitVec.ofInt 64 y).toNat : Int)
def bShr (x y : Int) : Int := x.fdiv (2 ^ (min y.toNat 64))

theorem bAnd_range (x y : Int) (h : 0 ≤ y ∧ y ≤ 9223372036854775807) : 0 ≤ bAnd x y ∧ bAnd x y ≤ y := by
  have h1 : (BitVec.ofInt 64 x &&& BitVec.ofInt 64 y).toNat ≤ y.toNat := by
    rw [BitVec.toNat_and]
    refine Nat.le_trans Nat.and_le_right ?_
    rw [BitVec.toNat_ofInt]
    omega
  have h2 : IntKind.i64.wrap ((BitVec.ofInt 64 x &&& BitVec.ofInt 64 y).toNat : Int) = ((BitVec.ofInt 64 x &&& BitVec.ofInt 64 y).toNat : Int) := i64_in (by omega)
  unfold bAnd
  rw [h2]
  omega

section
variable {P : Program} {n : Nat} {env : Env} {w : World} {d : Option Tmp} {ty : TypeId} {pos : String} {af : Array Edge} {g : Option (Nat × Bool)}

theorem r_addw {x y : Operand} {t u : TypeId} {i j : Int} (hx : ev env x = some (.int .i64 i)) (hy : ev env y = some (.int .i64 j)) :
    Runs P n env w ⟨d, .binOp .add t x y u, ty, pos, af, g⟩ (.int .i64 (iw (i + j))) w := fun a ha => by
  simp [execOp, ha.ev hx, ha.ev hy, eqGuard, binOp, Op.intArith, iw]
theorem r_mulw {x y : Operand} {t u : TypeId} {i j : Int} (hx : ev env x = some (.int .i64 i)) (hy : ev env y = some (.int .i64 j)) :
    Runs P n env w ⟨d, .binOp .mul t x y u, ty, pos, af, g⟩ (.int .i64 (iw (i * j))) w := fun a ha => by
  simp [execOp, ha.ev hx, ha.ev hy, eqGuard, binOp, Op.intArith, iw]
theorem r_and {x y : Operand} {t u : TypeId} {i j : Int} (hx : ev env x = some (.int .i64 i)) (hy : ev env y = some (.int .i64 j)) :
    Runs P n env w ⟨d, .binOp .and t x y u, ty, pos, af, g⟩ (.int .i64 (bAnd i j)) w := fun a ha => by
  simp [execOp, ha.ev hx, ha.ev hy, eqGuard, binOp, Op.intBits, bAnd, IntKind.bits, -BitVec.toNat_and, -BitVec.toNat_ofInt]; rfl
theorem r_xor {x y : Operand} {t u : TypeId} {i j : Int} (hx : ev env x = some (.int .i64 i)) (hy : ev env y = some (.int .i64 j)) :
    Runs P n env w ⟨d, .binOp .xor t x y u, ty, pos, af, g⟩ (.int .i64 (bXor i j)) w := fun a ha => by
  simp [execOp, ha.ev hx, ha.ev hy, eqGuard, binOp, Op.intBits, bXor, IntKind.bits, -BitVec.toNat_xor, -BitVec.toNat_ofInt]; rfl
theorem r_shr {x y : Operand} {t u : TypeId} {k : IntKind} {i j : Int} (hx : ev env x = some (.int .i64 i)) (hy : ev env y = some (.int k j)) (hj : 0 ≤ j) :
    Runs P n env w ⟨d, .binOp .shr t x y u, ty, pos, af, g⟩ (.int .i64 (bShr i j)) w := fun a ha => by
  simp [execOp, ha.ev hx, ha.ev hy, eqGuard, binOp, Op.shift, bShr, IntKind.bits, show ¬ j < 0 by omega]
theorem r_rem {x y : Operand} {t u : TypeId} {i j : Int} (hx : ev env x = some (.int .i64 i)) (hy : ev env y = some (.int .i64 j)) (h : 0 ≤ i ∧ 0 < j) :
    Runs P n env w ⟨d, .binOp .rem t x y u, ty, pos, af, g⟩ (.int .i64 (i % j)) w := fun a ha => by
  simp [execOp, ha.ev hx, ha.ev hy, eqGuard, binOp, Op.intDiv, show ¬ j = 0 by omega, Int.tmod_eq_emod_of_nonneg h.1]
theorem r_quo {x y : Operand} {t u : TypeId} {i j : Int} (hx : ev env x = some (.int .i64 i)) (hy : ev env y = some (.int .i64 j)) (h : 0 ≤ i ∧ i ≤ 9223372036854775807 ∧ 0 < j) :
    Runs P n env w ⟨d, .binOp .quo t x y u, ty, pos, af, g⟩ (.int .i64 (i / j)) w := fun a ha => by
  have h1 : 0 ≤ i / j := Int.ediv_nonneg h.1 (by omega)
  have h2 : i / j ≤ i := Int.ediv_le_self _ h.1
  simp [execOp, ha.ev hx, ha.ev hy, eqGuard, binOp, Op.intDiv, show ¬ j = 0 by omega, Int.tdiv_eq_ediv_of_nonneg h.1, i64_in (x := i / j) (by omega)]
/-- A small number in another kind. -/
theorem r_cvt {x : Operand} {s t : TypeId} {k k' : IntKind} {td : TypeDesc} {i : Int} (hs : P.underlying s = some td) (ht : P.underlying t = some (.int k)) (hx : ev env x = some (.int k' i)) (h : k.wrap i = i) :
    Runs P n env w ⟨d, .convert s t x, ty, pos, af, g⟩ (.int k i) w := fun a ha => by
  simp [execOp, ha.ev hx, convert, run_underlying hs, run_underlying ht, Conv.intToInt, h]

end

section
variable {P : Program} {n : Nat} {env : Env} {w : World} {ty : TypeId} {pos : String} {af : Array Edge} {ops : Array Oper} {rest : List Oper} {Q : Post}
/-- A call of a function value: what it has caught stands behind the arguments. -/
theorem w_callv {d : Nat} {f : FuncId} {x : Operand} {cap : List Value} {args : List Operand} {ats : Array TypeId} {vs : List Value} {K : Value → World → Prop} (hx : ev env x = some (.func (.func f) #[] cap.toArray)) (hd : Nat.blt d n = true) (hv : evs env args = some vs) (hc : Ret P f (vs ++ cap) w K)
    (h : ∀ v w', K v w' → WL P n ops rest Q ((d, v) :: env) w') : WL P n ops (⟨some d, .call { callee := .value x, args := args.toArray, argTypes := ats }, ty, pos, af, none⟩ :: rest) Q env w := fun a ha =>
  wpList_plain rfl fun K' hK => by
    obtain ⟨⟨fn, hf, hnm, hb⟩, hcalls⟩ := hc
    have h1 : (execOp a.eval ⟨some d, .call { callee := .value x, args := args.toArray, argTypes := ats }, ty, pos, af, none⟩).run P w = .ok (.enter f (vs ++ cap).toArray) w := by
      simp only [execOp, resolve, ha.ev hx, Deferred.ofValue, invoke, callFunc, Sem.run_bind, Sem.run_pure, Result.andThen_ok, run_program, hf, hnm, hb, List.map_toArray, ha.evs _ _ hv]
      simp
    unfold Oper.wp
    rw [h1]
    exact hcalls.mono fun e w' ⟨v, he, hk⟩ => by subst he; exact hK _ _ (h v w' hk _ (ha.put hd v))
end

/-- A slice value. -/
structure Sv where
  p : Option Addr
  n : Nat
  c : Nat
def Sv.v (s : Sv) : Value := .slice s.p s.n s.c

theorem Osl.sv {v : Value} {e size k : Nat} {xs : List Value} {w : World} (h : (oSl v e size k xs).ok w) : ∃ s : Sv, v = s.v := by
  obtain ⟨⟨a, cap, rfl, _⟩, _⟩ := Osl.form h
  exact ⟨⟨a, k, cap⟩, rfl⟩
theorem Of.sv {T : Type} {f : T → List Value} {L : List T} {v : Value} {e size : Nat} {w : World} (h : (oF v e size f L).ok w) : ∃ s : Sv, v = s.v := Osl.sv h
theorem Fs.sv {T : Type} {k : Nat} {f : T → List Value} {l : List T} {S : Nat → Prop} {w : World} {v : Value} (h : (dFs k f l).rd S w [v]) : ∃ s : Sv, v = s.v := by
  obtain ⟨a, cap, rfl, _⟩ := Fs.form h
  exact ⟨⟨a, _, cap⟩, rfl⟩

/-- What a call gives: it has changed no old block but X; what it gives lies in X or in new memory. -/
structure Gives (X : Nat → Prop) (w : World) (O : List Own) (w' : World) : Prop where
  relx : RelX X w w'
  ok : (oStar O).ok w'
  new : ∀ b, (oStar O).fp b → X b ∨ w.heap.size ≤ b

/-- A reading apart from what is lent. -/
def ArgX (X : Nat → Prop) (w : World) (cs : List Value) (d : D) : Prop := d.rd (fun b => b < w.heap.size ∧ ¬ X b) w cs

def noX : Nat → Prop := (oStar []).fp
theorem noX_no {b : Nat} : ¬ (oStar []).fp b := fun ⟨_, h, _⟩ => by cases h

section
variable {w0 : Base} {w w' : World} {m : List Own} {rs : List (List Value × D)}

theorem ArgX.arg {X : Nat → Prop} {cs : List Value} {d : D} (h : ArgX X w cs d) : Arg w cs d := d.mono (fun _ hb => ⟨hb.1, rfl⟩) h
theorem Arg.x {cs : List Value} {d : D} (h : Arg w cs d) : ArgX (oStar []).fp w cs d := d.mono (fun _ hb => ⟨⟨hb, noX_no⟩, rfl⟩) h

/-- The start of a call with resources L lent to it. -/
theorem St.enter {L : List Own} (ho : (oStar L).ok w) : St ⟨w, (oStar L).fp⟩ L [] w := by
  have h := (St.initX ho).split
  rwa [List.append_nil] at h

theorem St.addE {L : List Own} (h : St ⟨w, (oStar L).fp⟩ L rs w) {cs : List Value} {d : D} (ha : ArgX (oStar L).fp w cs d) : St ⟨w, (oStar L).fp⟩ L ((cs, d) :: rs) w :=
  h.add ha fun _ hb => ⟨hb.1, fun o ho hf => hb.2 ⟨o, ho, hf⟩⟩

/-- A reading, seen from a callee to which the things in front are lent. -/
theorem St.argx {L : List Own} (h : St w0 (L ++ m) rs w) {cs : List Value} {d : D} (hr : (cs, d) ∈ rs) : ArgX (oStar L).fp w cs d :=
  d.mono (fun _ hb => ⟨⟨hb.1, fun ⟨o, ho, hf⟩ => hb.2 o (List.mem_append_left _ ho) hf⟩, rfl⟩) (h.rd _ hr)

theorem St.lend {L : List Own} (h : St w0 (L ++ m) rs w) : (oStar L).ok w := h.join.top

/-- After such a call. -/
theorem St.got {L O : List Own} (h : St w0 (L ++ m) rs w) (hg : Gives (oStar L).fp w O w') : St w0 (O ++ m) rs w' := (h.join.lent hg.relx hg.ok hg.new).split

/-- The end of such a call. -/
theorem St.gives {X : Nat → Prop} {O : List Own} (h : St ⟨w, X⟩ (O ++ m) rs w') : Gives X w O w' :=
  ⟨h.relx, h.join.top, fun b hb => ((h.join.ok _ (List.mem_cons_self)).2 b hb).symm⟩

theorem Gives.rel {O : List Own} (h : Gives (oStar []).fp w O w') : Rel w w' := (h.relx.mono (fun _ hb => noX_no hb)).rel
theorem Gives.none {O : List Own} (h : Rel w w') (ho : (oStar O).ok w') (hn : ∀ b, (oStar O).fp b → w.heap.size ≤ b) (X : Nat → Prop) : Gives X w O w' := ⟨h.x _, ho, fun b hb => .inr (hn b hb)⟩

theorem St.drops {L : List Own} (h : St w0 (L ++ m) rs w) : St w0 m rs w := h.join.drop

/-- A function that owns nothing of its own and gives nothing. -/
theorem Gives.nil {X : Nat → Prop} (h : RelX X w w') : Gives X w [] w' := ⟨h, ⟨(fun _ h => by cases h), List.Pairwise.nil⟩, fun _ hb => (noX_no hb).elim⟩

end

section
variable {P : Program} {n : Nat} {Q : Post} {env : Env} {w : World} {c : Code} {i : Nat}

def lp5 {α0 α1 α2 α3 α4 : Type} (E : α0 → α1 → α2 → α3 → α4 → Env) (Φ : α0 → α1 → α2 → α3 → α4 → World → Prop) (μ : α0 → α1 → α2 → α3 → α4 → Nat) (x0 : α0) (x1 : α1) (x2 : α2) (x3 : α3) (x4 : α4) (Q : Post) : Post :=
  lp (fun p : α0 × α1 × α2 × α3 × α4 => E p.1 p.2.1 p.2.2.1 p.2.2.2.1 p.2.2.2.2) (fun p => Φ p.1 p.2.1 p.2.2.1 p.2.2.2.1 p.2.2.2.2) (fun p => μ p.1 p.2.1 p.2.2.1 p.2.2.2.1 p.2.2.2.2) (x0, x1, x2, x3, x4) Q
theorem wc_loop5 {α0 α1 α2 α3 α4 : Type} (E : α0 → α1 → α2 → α3 → α4 → Env) (Φ : α0 → α1 → α2 → α3 → α4 → World → Prop) (μ : α0 → α1 → α2 → α3 → α4 → Nat) (x0 : α0) (x1 : α1) (x2 : α2) (x3 : α3) (x4 : α4) (hc : Cov env (E x0 x1 x2 x3 x4)) (h0 : Φ x0 x1 x2 x3 x4 w)
    (hr : ∀ y0 y1 y2 y3 y4 w, Φ y0 y1 y2 y3 y4 w → WC P n c (lp5 E Φ μ y0 y1 y2 y3 y4 Q) (E y0 y1 y2 y3 y4) w) : WC P n (.loop c) Q env w :=
  wc_loop (fun p : α0 × α1 × α2 × α3 × α4 => E p.1 p.2.1 p.2.2.1 p.2.2.2.1 p.2.2.2.2) (fun p => Φ p.1 p.2.1 p.2.2.1 p.2.2.2.1 p.2.2.2.2) (fun p => μ p.1 p.2.1 p.2.2.1 p.2.2.2.1 p.2.2.2.2) (x0, x1, x2, x3, x4) hc h0 fun p w h => hr p.1 p.2.1 p.2.2.1 p.2.2.2.1 p.2.2.2.2 w h
theorem lp_end5 {α0 α1 α2 α3 α4 : Type} {E : α0 → α1 → α2 → α3 → α4 → Env} {Φ : α0 → α1 → α2 → α3 → α4 → World → Prop} {μ : α0 → α1 → α2 → α3 → α4 → Nat} {x0 : α0} {x1 : α1} {x2 : α2} {x3 : α3} {x4 : α4} (y0 : α0) (y1 : α1) (y2 : α2) (y3 : α3) (y4 : α4) (hm : μ y0 y1 y2 y3 y4 < μ x0 x1 x2 x3 x4) (hc : Cov env (E y0 y1 y2 y3 y4)) (h : Φ y0 y1 y2 y3 y4 w) : lp5 E Φ μ x0 x1 x2 x3 x4 Q .normal env w := ⟨(y0, y1, y2, y3, y4), hm, hc, h⟩
theorem lp5_ret {α0 α1 α2 α3 α4 : Type} {E : α0 → α1 → α2 → α3 → α4 → Env} {Φ : α0 → α1 → α2 → α3 → α4 → World → Prop} {μ : α0 → α1 → α2 → α3 → α4 → Nat} {x0 : α0} {x1 : α1} {x2 : α2} {x3 : α3} {x4 : α4} (h : Q .ret env w) : lp5 E Φ μ x0 x1 x2 x3 x4 Q .ret env w := h
theorem lp5_exit {α0 α1 α2 α3 α4 : Type} {E : α0 → α1 → α2 → α3 → α4 → Env} {Φ : α0 → α1 → α2 → α3 → α4 → World → Prop} {μ : α0 → α1 → α2 → α3 → α4 → Nat} {x0 : α0} {x1 : α1} {x2 : α2} {x3 : α3} {x4 : α4} (h : Q (.exit i) env w) : lp5 E Φ μ x0 x1 x2 x3 x4 Q (.exit i) env w := h

def lp6 {α0 α1 α2 α3 α4 α5 : Type} (E : α0 → α1 → α2 → α3 → α4 → α5 → Env) (Φ : α0 → α1 → α2 → α3 → α4 → α5 → World → Prop) (μ : α0 → α1 → α2 → α3 → α4 → α5 → Nat) (x0 : α0) (x1 : α1) (x2 : α2) (x3 : α3) (x4 : α4) (x5 : α5) (Q : Post) : Post :=
  lp (fun p : α0 × α1 × α2 × α3 × α4 × α5 => E p.1 p.2.1 p.2.2.1 p.2.2.2.1 p.2.2.2.2.1 p.2.2.2.2.2) (fun p => Φ p.1 p.2.1 p.2.2.1 p.2.2.2.1 p.2.2.2.2.1 p.2.2.2.2.2) (fun p => μ p.1 p.2.1 p.2.2.1 p.2.2.2.1 p.2.2.2.2.1 p.2.2.2.2.2) (x0, x1, x2, x3, x4, x5) Q
theorem wc_loop6 {α0 α1 α2 α3 α4 α5 : Type} (E : α0 → α1 → α2 → α3 → α4 → α5 → Env) (Φ : α0 → α1 → α2 → α3 → α4 → α5 → World → Prop) (μ : α0 → α1 → α2 → α3 → α4 → α5 → Nat) (x0 : α0) (x1 : α1) (x2 : α2) (x3 : α3) (x4 : α4) (x5 : α5) (hc : Cov env (E x0 x1 x2 x3 x4 x5)) (h0 : Φ x0 x1 x2 x3 x4 x5 w)
    (hr : ∀ y0 y1 y2 y3 y4 y5 w, Φ y0 y1 y2 y3 y4 y5 w → WC P n c (lp6 E Φ μ y0 y1 y2 y3 y4 y5 Q) (E y0 y1 y2 y3 y4 y5) w) : WC P n (.loop c) Q env w :=
  wc_loop (fun p : α0 × α1 × α2 × α3 × α4 × α5 => E p.1 p.2.1 p.2.2.1 p.2.2.2.1 p.2.2.2.2.1 p.2.2.2.2.2) (fun p => Φ p.1 p.2.1 p.2.2.1 p.2.2.2.1 p.2.2.2.2.1 p.2.2.2.2.2) (fun p => μ p.1 p.2.1 p.2.2.1 p.2.2.2.1 p.2.2.2.2.1 p.2.2.2.2.2) (x0, x1, x2, x3, x4, x5) hc h0 fun p w h => hr p.1 p.2.1 p.2.2.1 p.2.2.2.1 p.2.2.2.2.1 p.2.2.2.2.2 w h
theorem lp_end6 {α0 α1 α2 α3 α4 α5 : Type} {E : α0 → α1 → α2 → α3 → α4 → α5 → Env} {Φ : α0 → α1 → α2 → α3 → α4 → α5 → World → Prop} {μ : α0 → α1 → α2 → α3 → α4 → α5 → Nat} {x0 : α0} {x1 : α1} {x2 : α2} {x3 : α3} {x4 : α4} {x5 : α5} (y0 : α0) (y1 : α1) (y2 : α2) (y3 : α3) (y4 : α4) (y5 : α5) (hm : μ y0 y1 y2 y3 y4 y5 < μ x0 x1 x2 x3 x4 x5) (hc : Cov env (E y0 y1 y2 y3 y4 y5)) (h : Φ y0 y1 y2 y3 y4 y5 w) : lp6 E Φ μ x0 x1 x2 x3 x4 x5 Q .normal env w := ⟨(y0, y1, y2, y3, y4, y5), hm, hc, h⟩
theorem lp6_ret {α0 α1 α2 α3 α4 α5 : Type} {E : α0 → α1 → α2 → α3 → α4 → α5 → Env} {Φ : α0 → α1 → α2 → α3 → α4 → α5 → World → Prop} {μ : α0 → α1 → α2 → α3 → α4 → α5 → Nat} {x0 : α0} {x1 : α1} {x2 : α2} {x3 : α3} {x4 : α4} {x5 : α5} (h : Q .ret env w) : lp6 E Φ μ x0 x1 x2 x3 x4 x5 Q .ret env w := h
theorem lp6_exit {α0 α1 α2 α3 α4 α5 : Type} {E : α0 → α1 → α2 → α3 → α4 → α5 → Env} {Φ : α0 → α1 → α2 → α3 → α4 → α5 → World → Prop} {μ : α0 → α1 → α2 → α3 → α4 → α5 → Nat} {x0 : α0} {x1 : α1} {x2 : α2} {x3 : α3} {x4 : α4} {x5 : α5} (h : Q (.exit i) env w) : lp6 E Φ μ x0 x1 x2 x3 x4 x5 Q (.exit i) env w := h

def lp7 {α0 α1 α2 α3 α4 α5 α6 : Type} (E : α0 → α1 → α2 → α3 → α4 → α5 → α6 → Env) (Φ : α0 → α1 → α2 → α3 → α4 → α5 → α6 → World → Prop) (μ : α0 → α1 → α2 → α3 → α4 → α5 → α6 → Nat) (x0 : α0) (x1 : α1) (x2 : α2) (x3 : α3) (x4 : α4) (x5 : α5) (x6 : α6) (Q : Post) : Post :=
  lp (fun p : α0 × α1 × α2 × α3 × α4 × α5 × α6 => E p.1 p.2.1 p.2.2.1 p.2.2.2.1 p.2.2.2.2.1 p.2.2.2.2.2.1 p.2.2.2.2.2.2) (fun p => Φ p.1 p.2.1 p.2.2.1 p.2.2.2.1 p.2.2.2.2.1 p.2.2.2.2.2.1 p.2.2.2.2.2.2) (fun p => μ p.1 p.2.1 p.2.2.1 p.2.2.2.1 p.2.2.2.2.1 p.2.2.2.2.2.1 p.2.2.2.2.2.2) (x0, x1, x2, x3, x4, x5, x6) Q
theorem wc_loop7 {α0 α1 α2 α3 α4 α5 α6 : Type} (E : α0 → α1 → α2 → α3 → α4 → α5 → α6 → Env) (Φ : α0 → α1 → α2 → α3 → α4 → α5 → α6 → World → Prop) (μ : α0 → α1 → α2 → α3 → α4 → α5 → α6 → Nat) (x0 : α0) (x1 : α1) (x2 : α2) (x3 : α3) (x4 : α4) (x5 : α5) (x6 : α6) (hc : Cov env (E x0 x1 x2 x3 x4 x5 x6)) (h0 : Φ x0 x1 x2 x3 x4 x5 x6 w)
    (hr : ∀ y0 y1 y2 y3 y4 y5 y6 w, Φ y0 y1 y2 y3 y4 y5 y6 w → WC P n c (lp7 E Φ μ y0 y1 y2 y3 y4 y5 y6 Q) (E y0 y1 y2 y3 y4 y5 y6) w) : WC P n (.loop c) Q env w :=
  wc_loop (fun p : α0 × α1 × α2 × α3 × α4 × α5 × α6 => E p.1 p.2.1 p.2.2.1 p.2.2.2.1 p.2.2.2.2.1 p.2.2.2.2.2.1 p.2.2.2.2.2.2) (fun p => Φ p.1 p.2.1 p.2.2.1 p.2.2.2.1 p.2.2.2.2.1 p.2.2.2.2.2.1 p.2.2.2.2.2.2) (fun p => μ p.1 p.2.1 p.2.2.1 p.2.2.2.1 p.2.2.2.2.1 p.2.2.2.2.2.1 p.2.2.2.2.2.2) (x0, x1, x2, x3, x4, x5, x6) hc h0 fun p w h => hr p.1 p.2.1 p.2.2.1 p.2.2.2.1 p.2.2.2.2.1 p.2.2.2.2.2.1 p.2.2.2.2.2.2 w h
theorem lp_end7 {α0 α1 α2 α3 α4 α5 α6 : Type} {E : α0 → α1 → α2 → α3 → α4 → α5 → α6 → Env} {Φ : α0 → α1 → α2 → α3 → α4 → α5 → α6 → World → Prop} {μ : α0 → α1 → α2 → α3 → α4 → α5 → α6 → Nat} {x0 : α0} {x1 : α1} {x2 : α2} {x3 : α3} {x4 : α4} {x5 : α5} {x6 : α6} (y0 : α0) (y1 : α1) (y2 : α2) (y3 : α3) (y4 : α4) (y5 : α5) (y6 : α6) (hm : μ y0 y1 y2 y3 y4 y5 y6 < μ x0 x1 x2 x3 x4 x5 x6) (hc : Cov env (E y0 y1 y2 y3 y4 y5 y6)) (h : Φ y0 y1 y2 y3 y4 y5 y6 w) : lp7 E Φ μ x0 x1 x2 x3 x4 x5 x6 Q .normal env w := ⟨(y0, y1, y2, y3, y4, y5, y6), hm, hc, h⟩
theorem lp7_ret {α0 α1 α2 α3 α4 α5 α6 : Type} {E : α0 → α1 → α2 → α3 → α4 → α5 → α6 → Env} {Φ : α0 → α1 → α2 → α3 → α4 → α5 → α6 → World → Prop} {μ : α0 → α1 → α2 → α3 → α4 → α5 → α6 → Nat} {x0 : α0} {x1 : α1} {x2 : α2} {x3 : α3} {x4 : α4} {x5 : α5} {x6 : α6} (h : Q .ret env w) : lp7 E Φ μ x0 x1 x2 x3 x4 x5 x6 Q .ret env w := h
theorem lp7_exit {α0 α1 α2 α3 α4 α5 α6 : Type} {E : α0 → α1 → α2 → α3 → α4 → α5 → α6 → Env} {Φ : α0 → α1 → α2 → α3 → α4 → α5 → α6 → World → Prop} {μ : α0 → α1 → α2 → α3 → α4 → α5 → α6 → Nat} {x0 : α0} {x1 : α1} {x2 : α2} {x3 : α3} {x4 : α4} {x5 : α5} {x6 : α6} (h : Q (.exit i) env w) : lp7 E Φ μ x0 x1 x2 x3 x4 x5 x6 Q (.exit i) env w := h

def lp8 {α0 α1 α2 α3 α4 α5 α6 α7 : Type} (E : α0 → α1 → α2 → α3 → α4 → α5 → α6 → α7 → Env) (Φ : α0 → α1 → α2 → α3 → α4 → α5 → α6 → α7 → World → Prop) (μ : α0 → α1 → α2 → α3 → α4 → α5 → α6 → α7 → Nat) (x0 : α0) (x1 : α1) (x2 : α2) (x3 : α3) (x4 : α4) (x5 : α5) (x6 : α6) (x7 : α7) (Q : Post) : Post :=
  lp (fun p : α0 × α1 × α2 × α3 × α4 × α5 × α6 × α7 => E p.1 p.2.1 p.2.2.1 p.2.2.2.1 p.2.2.2.2.1 p.2.2.2.2.2.1 p.2.2.2.2.2.2.1 p.2.2.2.2.2.2.2) (fun p => Φ p.1 p.2.1 p.2.2.1 p.2.2.2.1 p.2.2.2.2.1 p.2.2.2.2.2.1 p.2.2.2.2.2.2.1 p.2.2.2.2.2.2.2) (fun p => μ p.1 p.2.1 p.2.2.1 p.2.2.2.1 p.2.2.2.2.1 p.2.2.2.2.2.1 p.2.2.2.2.2.2.1 p.2.2.2.2.2.2.2) (x0, x1, x2, x3, x4, x5, x6, x7) Q
theorem wc_loop8 {α0 α1 α2 α3 α4 α5 α6 α7 : Type} (E : α0 → α1 → α2 → α3 → α4 → α5 → α6 → α7 → Env) (Φ : α0 → α1 → α2 → α3 → α4 → α5 → α6 → α7 → World → Prop) (μ : α0 → α1 → α2 → α3 → α4 → α5 → α6 → α7 → Nat) (x0 : α0) (x1 : α1) (x2 : α2) (x3 : α3) (x4 : α4) (x5 : α5) (x6 : α6) (x7 : α7) (hc : Cov env (E x0 x1 x2 x3 x4 x5 x6 x7)) (h0 : Φ x0 x1 x2 x3 x4 x5 x6 x7 w)
    (hr : ∀ y0 y1 y2 y3 y4 y5 y6 y7 w, Φ y0 y1 y2 y3 y4 y5 y6 y7 w → WC P n c (lp8 E Φ μ y0 y1 y2 y3 y4 y5 y6 y7 Q) (E y0 y1 y2 y3 y4 y5 y6 y7) w) : WC P n (.loop c) Q env w :=
  wc_loop (fun p : α0 × α1 × α2 × α3 × α4 × α5 × α6 × α7 => E p.1 p.2.1 p.2.2.1 p.2.2.2.1 p.2.2.2.2.1 p.2.2.2.2.2.1 p.2.2.2.2.2.2.1 p.2.2.2.2.2.2.2) (fun p => Φ p.1 p.2.1 p.2.2.1 p.2.2.2.1 p.2.2.2.2.1 p.2.2.2.2.2.1 p.2.2.2.2.2.2.1 p.2.2.2.2.2.2.2) (fun p => μ p.1 p.2.1 p.2.2.1 p.2.2.2.1 p.2.2.2.2.1 p.2.2.2.2.2.1 p.2.2.2.2.2.2.1 p.2.2.2.2.2.2.2) (x0, x1, x2, x3, x4, x5, x6, x7) hc h0 fun p w h => hr p.1 p.2.1 p.2.2.1 p.2.2.2.1 p.2.2.2.2.1 p.2.2.2.2.2.1 p.2.2.2.2.2.2.1 p.2.2.2.2.2.2.2 w h
theorem lp_end8 {α0 α1 α2 α3 α4 α5 α6 α7 : Type} {E : α0 → α1 → α2 → α3 → α4 → α5 → α6 → α7 → Env} {Φ : α0 → α1 → α2 → α3 → α4 → α5 → α6 → α7 → World → Prop} {μ : α0 → α1 → α2 → α3 → α4 → α5 → α6 → α7 → Nat} {x0 : α0} {x1 : α1} {x2 : α2} {x3 : α3} {x4 : α4} {x5 : α5} {x6 : α6} {x7 : α7} (y0 : α0) (y1 : α1) (y2 : α2) (y3 : α3) (y4 : α4) (y5 : α5) (y6 : α6) (y7 : α7) (hm : μ y0 y1 y2 y3 y4 y5 y6 y7 < μ x0 x1 x2 x3 x4 x5 x6 x7) (hc : Cov env (E y0 y1 y2 y3 y4 y5 y6 y7)) (h : Φ y0 y1 y2 y3 y4 y5 y6 y7 w) : lp8 E Φ μ x0 x1 x2 x3 x4 x5 x6 x7 Q .normal env w := ⟨(y0, y1, y2, y3, y4, y5, y6, y7), hm, hc, h⟩
theorem lp8_ret {α0 α1 α2 α3 α4 α5 α6 α7 : Type} {E : α0 → α1 → α2 → α3 → α4 → α5 → α6 → α7 → Env} {Φ : α0 → α1 → α2 → α3 → α4 → α5 → α6 → α7 → World → Prop} {μ : α0 → α1 → α2 → α3 → α4 → α5 → α6 → α7 → Nat} {x0 : α0} {x1 : α1} {x2 : α2} {x3 : α3} {x4 : α4} {x5 : α5} {x6 : α6} {x7 : α7} (h : Q .ret env w) : lp8 E Φ μ x0 x1 x2 x3 x4 x5 x6 x7 Q .ret env w := h
theorem lp8_exit {α0 α1 α2 α3 α4 α5 α6 α7 : Type} {E : α0 → α1 → α2 → α3 → α4 → α5 → α6 → α7 → Env} {Φ : α0 → α1 → α2 → α3 → α4 → α5 → α6 → α7 → World → Prop} {μ : α0 → α1 → α2 → α3 → α4 → α5 → α6 → α7 → Nat} {x0 : α0} {x1 : α1} {x2 : α2} {x3 : α3} {x4 : α4} {x5 : α5} {x6 : α6} {x7 : α7} (h : Q (.exit i) env w) : lp8 E Φ μ x0 x1 x2 x3 x4 x5 x6 x7 Q (.exit i) env w := h

def lp9 {α0 α1 α2 α3 α4 α5 α6 α7 α8 : Type} (E : α0 → α1 → α2 → α3 → α4 → α5 → α6 → α7 → α8 → Env) (Φ : α0 → α1 → α2 → α3 → α4 → α5 → α6 → α7 → α8 → World → Prop) (μ : α0 → α1 → α2 → α3 → α4 → α5 → α6 → α7 → α8 → Nat) (x0 : α0) (x1 : α1) (x2 : α2) (x3 : α3) (x4 : α4) (x5 : α5) (x6 : α6) (x7 : α7) (x8 : α8) (Q : Post) : Post :=
  lp (fun p : α0 × α1 × α2 × α3 × α4 × α5 × α6 × α7 × α8 => E p.1 p.2.1 p.2.2.1 p.2.2.2.1 p.2.2.2.2.1 p.2.2.2.2.2.1 p.2.2.2.2.2.2.1 p.2.2.2.2.2.2.2.1 p.2.2.2.2.2.2.2.2) (fun p => Φ p.1 p.2.1 p.2.2.1 p.2.2.2.1 p.2.2.2.2.1 p.2.2.2.2.2.1 p.2.2.2.2.2.2.1 p.2.2.2.2.2.2.2.1 p.2.2.2.2.2.2.2.2) (fun p => μ p.1 p.2.1 p.2.2.1 p.2.2.2.1 p.2.2.2.2.1 p.2.2.2.2.2.1 p.2.2.2.2.2.2.1 p.2.2.2.2.2.2.2.1 p.2.2.2.2.2.2.2.2) (x0, x1, x2, x3, x4, x5, x6, x7, x8) Q
theorem wc_loop9 {α0 α1 α2 α3 α4 α5 α6 α7 α8 : Type} (E : α0 → α1 → α2 → α3 → α4 → α5 → α6 → α7 → α8 → Env) (Φ : α0 → α1 → α2 → α3 → α4 → α5 → α6 → α7 → α8 → World → Prop) (μ : α0 → α1 → α2 → α3 → α4 → α5 → α6 → α7 → α8 → Nat) (x0 : α0) (x1 : α1) (x2 : α2) (x3 : α3) (x4 : α4) (x5 : α5) (x6 : α6) (x7 : α7) (x8 : α8) (hc : Cov env (E x0 x1 x2 x3 x4 x5 x6 x7 x8)) (h0 : Φ x0 x1 x2 x3 x4 x5 x6 x7 x8 w)
    (hr : ∀ y0 y1 y2 y3 y4 y5 y6 y7 y8 w, Φ y0 y1 y2 y3 y4 y5 y6 y7 y8 w → WC P n c (lp9 E Φ μ y0 y1 y2 y3 y4 y5 y6 y7 y8 Q) (E y0 y1 y2 y3 y4 y5 y6 y7 y8) w) : WC P n (.loop c) Q env w :=
  wc_loop (fun p : α0 × α1 × α2 × α3 × α4 × α5 × α6 × α7 × α8 => E p.1 p.2.1 p.2.2.1 p.2.2.2.1 p.2.2.2.2.1 p.2.2.2.2.2.1 p.2.2.2.2.2.2.1 p.2.2.2.2.2.2.2.1 p.2.2.2.2.2.2.2.2) (fun p => Φ p.1 p.2.1 p.2.2.1 p.2.2.2.1 p.2.2.2.2.1 p.2.2.2.2.2.1 p.2.2.2.2.2.2.1 p.2.2.2.2.2.2.2.1 p.2.2.2.2.2.2.2.2) (fun p => μ p.1 p.2.1 p.2.2.1 p.2.2.2.1 p.2.2.2.2.1 p.2.2.2.2.2.1 p.2.2.2.2.2.2.1 p.2.2.2.2.2.2.2.1 p.2.2.2.2.2.2.2.2) (x0, x1, x2, x3, x4, x5, x6, x7, x8) hc h0 fun p w h => hr p.1 p.2.1 p.2.2.1 p.2.2.2.1 p.2.2.2.2.1 p.2.2.2.2.2.1 p.2.2.2.2.2.2.1 p.2.2.2.2.2.2.2.1 p.2.2.2.2.2.2.2.2 w h
theorem lp_end9 {α0 α1 α2 α3 α4 α5 α6 α7 α8 : Type} {E : α0 → α1 → α2 → α3 → α4 → α5 → α6 → α7 → α8 → Env} {Φ : α0 → α1 → α2 → α3 → α4 → α5 → α6 → α7 → α8 → World → Prop} {μ : α0 → α1 → α2 → α3 → α4 → α5 → α6 → α7 → α8 → Nat} {x0 : α0} {x1 : α1} {x2 : α2} {x3 : α3} {x4 : α4} {x5 : α5} {x6 : α6} {x7 : α7} {x8 : α8} (y0 : α0) (y1 : α1) (y2 : α2) (y3 : α3) (y4 : α4) (y5 : α5) (y6 : α6) (y7 : α7) (y8 : α8) (hm : μ y0 y1 y2 y3 y4 y5 y6 y7 y8 < μ x0 x1 x2 x3 x4 x5 x6 x7 x8) (hc : Cov env (E y0 y1 y2 y3 y4 y5 y6 y7 y8)) (h : Φ y0 y1 y2 y3 y4 y5 y6 y7 y8 w) : lp9 E Φ μ x0 x1 x2 x3 x4 x5 x6 x7 x8 Q .normal env w := ⟨(y0, y1, y2, y3, y4, y5, y6, y7, y8), hm, hc, h⟩
theorem lp9_ret {α0 α1 α2 α3 α4 α5 α6 α7 α8 : Type} {E : α0 → α1 → α2 → α3 → α4 → α5 → α6 → α7 → α8 → Env} {Φ : α0 → α1 → α2 → α3 → α4 → α5 → α6 → α7 → α8 → World → Prop} {μ : α0 → α1 → α2 → α3 → α4 → α5 → α6 → α7 → α8 → Nat} {x0 : α0} {x1 : α1} {x2 : α2} {x3 : α3} {x4 : α4} {x5 : α5} {x6 : α6} {x7 : α7} {x8 : α8} (h : Q .ret env w) : lp9 E Φ μ x0 x1 x2 x3 x4 x5 x6 x7 x8 Q .ret env w := h
theorem lp9_exit {α0 α1 α2 α3 α4 α5 α6 α7 α8 : Type} {E : α0 → α1 → α2 → α3 → α4 → α5 → α6 → α7 → α8 → Env} {Φ : α0 → α1 → α2 → α3 → α4 → α5 → α6 → α7 → α8 → World → Prop} {μ : α0 → α1 → α2 → α3 → α4 → α5 → α6 → α7 → α8 → Nat} {x0 : α0} {x1 : α1} {x2 : α2} {x3 : α3} {x4 : α4} {x5 : α5} {x6 : α6} {x7 : α7} {x8 : α8} (h : Q (.exit i) env w) : lp9 E Φ μ x0 x1 x2 x3 x4 x5 x6 x7 x8 Q (.exit i) env w := h

def lp10 {α0 α1 α2 α3 α4 α5 α6 α7 α8 α9 : Type} (E : α0 → α1 → α2 → α3 → α4 → α5 → α6 → α7 → α8 → α9 → Env) (Φ : α0 → α1 → α2 → α3 → α4 → α5 → α6 → α7 → α8 → α9 → World → Prop) (μ : α0 → α1 → α2 → α3 → α4 → α5 → α6 → α7 → α8 → α9 → Nat) (x0 : α0) (x1 : α1) (x2 : α2) (x3 : α3) (x4 : α4) (x5 : α5) (x6 : α6) (x7 : α7) (x8 : α8) (x9 : α9) (Q : Post) : Post :=
  lp (fun p : α0 × α1 × α2 × α3 × α4 × α5 × α6 × α7 × α8 × α9 => E p.1 p.2.1 p.2.2.1 p.2.2.2.1 p.2.2.2.2.1 p.2.2.2.2.2.1 p.2.2.2.2.2.2.1 p.2.2.2.2.2.2.2.1 p.2.2.2.2.2.2.2.2.1 p.2.2.2.2.2.2.2.2.2) (fun p => Φ p.1 p.2.1 p.2.2.1 p.2.2.2.1 p.2.2.2.2.1 p.2.2.2.2.2.1 p.2.2.2.2.2.2.1 p.2.2.2.2.2.2.2.1 p.2.2.2.2.2.2.2.2.1 p.2.2.2.2.2.2.2.2.2) (fun p => μ p.1 p.2.1 p.2.2.1 p.2.2.2.1 p.2.2.2.2.1 p.2.2.2.2.2.1 p.2.2.2.2.2.2.1 p.2.2.2.2.2.2.2.1 p.2.2.2.2.2.2.2.2.1 p.2.2.2.2.2.2.2.2.2) (x0, x1, x2, x3, x4, x5, x6, x7, x8, x9) Q
theorem wc_loop10 {α0 α1 α2 α3 α4 α5 α6 α7 α8 α9 : Type} (E : α0 → α1 → α2 → α3 → α4 → α5 → α6 → α7 → α8 → α9 → Env) (Φ : α0 → α1 → α2 → α3 → α4 → α5 → α6 → α7 → α8 → α9 → World → Prop) (μ : α0 → α1 → α2 → α3 → α4 → α5 → α6 → α7 → α8 → α9 → Nat) (x0 : α0) (x1 : α1) (x2 : α2) (x3 : α3) (x4 : α4) (x5 : α5) (x6 : α6) (x7 : α7) (x8 : α8) (x9 : α9) (hc : Cov env (E x0 x1 x2 x3 x4 x5 x6 x7 x8 x9)) (h0 : Φ x0 x1 x2 x3 x4 x5 x6 x7 x8 x9 w)
    (hr : ∀ y0 y1 y2 y3 y4 y5 y6 y7 y8 y9 w, Φ y0 y1 y2 y3 y4 y5 y6 y7 y8 y9 w → WC P n c (lp10 E Φ μ y0 y1 y2 y3 y4 y5 y6 y7 y8 y9 Q) (E y0 y1 y2 y3 y4 y5 y6 y7 y8 y9) w) : WC P n (.loop c) Q env w :=
  wc_loop (fun p : α0 × α1 × α2 × α3 × α4 × α5 × α6 × α7 × α8 × α9 => E p.1 p.2.1 p.2.2.1 p.2.2.2.1 p.2.2.2.2.1 p.2.2.2.2.2.1 p.2.2.2.2.2.2.1 p.2.2.2.2.2.2.2.1 p.2.2.2.2.2.2.2.2.1 p.2.2.2.2.2.2.2.2.2) (fun p => Φ p.1 p.2.1 p.2.2.1 p.2.2.2.1 p.2.2.2.2.1 p.2.2.2.2.2.1 p.2.2.2.2.2.2.1 p.2.2.2.2.2.2.2.1 p.2.2.2.2.2.2.2.2.1 p.2.2.2.2.2.2.2.2.2) (fun p => μ p.1 p.2.1 p.2.2.1 p.2.2.2.1 p.2.2.2.2.1 p.2.2.2.2.2.1 p.2.2.2.2.2.2.1 p.2.2.2.2.2.2.2.1 p.2.2.2.2.2.2.2.2.1 p.2.2.2.2.2.2.2.2.2) (x0, x1, x2, x3, x4, x5, x6, x7, x8, x9) hc h0 fun p w h => hr p.1 p.2.1 p.2.2.1 p.2.2.2.1 p.2.2.2.2.1 p.2.2.2.2.2.1 p.2.2.2.2.2.2.1 p.2.2.2.2.2.2.2.1 p.2.2.2.2.2.2.2.2.1 p.2.2.2.2.2.2.2.2.2 w h
theorem lp_end10 {α0 α1 α2 α3 α4 α5 α6 α7 α8 α9 : Type} {E : α0 → α1 → α2 → α3 → α4 → α5 → α6 → α7 → α8 → α9 → Env} {Φ : α0 → α1 → α2 → α3 → α4 → α5 → α6 → α7 → α8 → α9 → World → Prop} {μ : α0 → α1 → α2 → α3 → α4 → α5 → α6 → α7 → α8 → α9 → Nat} {x0 : α0} {x1 : α1} {x2 : α2} {x3 : α3} {x4 : α4} {x5 : α5} {x6 : α6} {x7 : α7} {x8 : α8} {x9 : α9} (y0 : α0) (y1 : α1) (y2 : α2) (y3 : α3) (y4 : α4) (y5 : α5) (y6 : α6) (y7 : α7) (y8 : α8) (y9 : α9) (hm : μ y0 y1 y2 y3 y4 y5 y6 y7 y8 y9 < μ x0 x1 x2 x3 x4 x5 x6 x7 x8 x9) (hc : Cov env (E y0 y1 y2 y3 y4 y5 y6 y7 y8 y9)) (h : Φ y0 y1 y2 y3 y4 y5 y6 y7 y8 y9 w) : lp10 E Φ μ x0 x1 x2 x3 x4 x5 x6 x7 x8 x9 Q .normal env w := ⟨(y0, y1, y2, y3, y4, y5, y6, y7, y8, y9), hm, hc, h⟩
theorem lp10_ret {α0 α1 α2 α3 α4 α5 α6 α7 α8 α9 : Type} {E : α0 → α1 → α2 → α3 → α4 → α5 → α6 → α7 → α8 → α9 → Env} {Φ : α0 → α1 → α2 → α3 → α4 → α5 → α6 → α7 → α8 → α9 → World → Prop} {μ : α0 → α1 → α2 → α3 → α4 → α5 → α6 → α7 → α8 → α9 → Nat} {x0 : α0} {x1 : α1} {x2 : α2} {x3 : α3} {x4 : α4} {x5 : α5} {x6 : α6} {x7 : α7} {x8 : α8} {x9 : α9} (h : Q .ret env w) : lp10 E Φ μ x0 x1 x2 x3 x4 x5 x6 x7 x8 x9 Q .ret env w := h
theorem lp10_exit {α0 α1 α2 α3 α4 α5 α6 α7 α8 α9 : Type} {E : α0 → α1 → α2 → α3 → α4 → α5 → α6 → α7 → α8 → α9 → Env} {Φ : α0 → α1 → α2 → α3 → α4 → α5 → α6 → α7 → α8 → α9 → World → Prop} {μ : α0 → α1 → α2 → α3 → α4 → α5 → α6 → α7 → α8 → α9 → Nat} {x0 : α0} {x1 : α1} {x2 : α2} {x3 : α3} {x4 : α4} {x5 : α5} {x6 : α6} {x7 : α7} {x8 : α8} {x9 : α9} (h : Q (.exit i) env w) : lp10 E Φ μ x0 x1 x2 x3 x4 x5 x6 x7 x8 x9 Q (.exit i) env w := h

def lp11 {α0 α1 α2 α3 α4 α5 α6 α7 α8 α9 α10 : Type} (E : α0 → α1 → α2 → α3 → α4 → α5 → α6 → α7 → α8 → α9 → α10 → Env) (Φ : α0 → α1 → α2 → α3 → α4 → α5 → α6 → α7 → α8 → α9 → α10 → World → Prop) (μ : α0 → α1 → α2 → α3 → α4 → α5 → α6 → α7 → α8 → α9 → α10 → Nat) (x0 : α0) (x1 : α1) (x2 : α2) (x3 : α3) (x4 : α4) (x5 : α5) (x6 : α6) (x7 : α7) (x8 : α8) (x9 : α9) (x10 : α10) (Q : Post) : Post :=
  lp (fun p : α0 × α1 × α2 × α3 × α4 × α5 × α6 × α7 × α8 × α9 × α10 => E p.1 p.2.1 p.2.2.1 p.2.2.2.1 p.2.2.2.2.1 p.2.2.2.2.2.1 p.2.2.2.2.2.2.1 p.2.2.2.2.2.2.2.1 p.2.2.2.2.2.2.2.2.1 p.2.2.2.2.2.2.2.2.2.1 p.2.2.2.2.2.2.2.2.2.2) (fun p => Φ p.1 p.2.1 p.2.2.1 p.2.2.2.1 p.2.2.2.2.1 p.2.2.2.2.2.1 p.2.2.2.2.2.2.1 p.2.2.2.2.2.2.2.1 p.2.2.2.2.2.2.2.2.1 p.2.2.2.2.2.2.2.2.2.1 p.2.2.2.2.2.2.2.2.2.2) (fun p => μ p.1 p.2.1 p.2.2.1 p.2.2.2.1 p.2.2.2.2.1 p.2.2.2.2.2.1 p.2.2.2.2.2.2.1 p.2.2.2.2.2.2.2.1 p.2.2.2.2.2.2.2.2.1 p.2.2.2.2.2.2.2.2.2.1 p.2.2.2.2.2.2.2.2.2.2) (x0, x1, x2, x3, x4, x5, x6, x7, x8, x9, x10) Q
theorem wc_loop11 {α0 α1 α2 α3 α4 α5 α6 α7 α8 α9 α10 : Type} (E : α0 → α1 → α2 → α3 → α4 → α5 → α6 → α7 → α8 → α9 → α10 → Env) (Φ : α0 → α1 → α2 → α3 → α4 → α5 → α6 → α7 → α8 → α9 → α10 → World → Prop) (μ : α0 → α1 → α2 → α3 → α4 → α5 → α6 → α7 → α8 → α9 → α10 → Nat) (x0 : α0) (x1 : α1) (x2 : α2) (x3 : α3) (x4 : α4) (x5 : α5) (x6 : α6) (x7 : α7) (x8 : α8) (x9 : α9) (x10 : α10) (hc : Cov env (E x0 x1 x2 x3 x4 x5 x6 x7 x8 x9 x10)) (h0 : Φ x0 x1 x2 x3 x4 x5 x6 x7 x8 x9 x10 w)
    (hr : ∀ y0 y1 y2 y3 y4 y5 y6 y7 y8 y9 y10 w, Φ y0 y1 y2 y3 y4 y5 y6 y7 y8 y9 y10 w → WC P n c (lp11 E Φ μ y0 y1 y2 y3 y4 y5 y6 y7 y8 y9 y10 Q) (E y0 y1 y2 y3 y4 y5 y6 y7 y8 y9 y10) w) : WC P n (.loop c) Q env w :=
  wc_loop (fun p : α0 × α1 × α2 × α3 × α4 × α5 × α6 × α7 × α8 × α9 × α10 => E p.1 p.2.1 p.2.2.1 p.2.2.2.1 p.2.2.2.2.1 p.2.2.2.2.2.1 p.2.2.2.2.2.2.1 p.2.2.2.2.2.2.2.1 p.2.2.2.2.2.2.2.2.1 p.2.2.2.2.2.2.2.2.2.1 p.2.2.2.2.2.2.2.2.2.2) (fun p => Φ p.1 p.2.1 p.2.2.1 p.2.2.2.1 p.2.2.2.2.1 p.2.2.2.2.2.1 p.2.2.2.2.2.2.1 p.2.2.2.2.2.2.2.1 p.2.2.2.2.2.2.2.2.1 p.2.2.2.2.2.2.2.2.2.1 p.2.2.2.2.2.2.2.2.2.2) (fun p => μ p.1 p.2.1 p.2.2.1 p.2.2.2.1 p.2.2.2.2.1 p.2.2.2.2.2.1 p.2.2.2.2.2.2.1 p.2.2.2.2.2.2.2.1 p.2.2.2.2.2.2.2.2.1 p.2.2.2.2.2.2.2.2.2.1 p.2.2.2.2.2.2.2.2.2.2) (x0, x1, x2, x3, x4, x5, x6, x7, x8, x9, x10) hc h0 fun p w h => hr p.1 p.2.1 p.2.2.1 p.2.2.2.1 p.2.2.2.2.1 p.2.2.2.2.2.1 p.2.2.2.2.2.2.1 p.2.2.2.2.2.2.2.1 p.2.2.2.2.2.2.2.2.1 p.2.2.2.2.2.2.2.2.2.1 p.2.2.2.2.2.2.2.2.2.2 w h
theorem lp_end11 {α0 α1 α2 α3 α4 α5 α6 α7 α8 α9 α10 : Type} {E : α0 → α1 → α2 → α3 → α4 → α5 → α6 → α7 → α8 → α9 → α10 → Env} {Φ : α0 → α1 → α2 → α3 → α4 → α5 → α6 → α7 → α8 → α9 → α10 → World → Prop} {μ : α0 → α1 → α2 → α3 → α4 → α5 → α6 → α7 → α8 → α9 → α10 → Nat} {x0 : α0} {x1 : α1} {x2 : α2} {x3 : α3} {x4 : α4} {x5 : α5} {x6 : α6} {x7 : α7} {x8 : α8} {x9 : α9} {x10 : α10} (y0 : α0) (y1 : α1) (y2 : α2) (y3 : α3) (y4 : α4) (y5 : α5) (y6 : α6) (y7 : α7) (y8 : α8) (y9 : α9) (y10 : α10) (hm : μ y0 y1 y2 y3 y4 y5 y6 y7 y8 y9 y10 < μ x0 x1 x2 x3 x4 x5 x6 x7 x8 x9 x10) (hc : Cov env (E y0 y1 y2 y3 y4 y5 y6 y7 y8 y9 y10)) (h : Φ y0 y1 y2 y3 y4 y5 y6 y7 y8 y9 y10 w) : lp11 E Φ μ x0 x1 x2 x3 x4 x5 x6 x7 x8 x9 x10 Q .normal env w := ⟨(y0, y1, y2, y3, y4, y5, y6, y7, y8, y9, y10), hm, hc, h⟩
theorem lp11_ret {α0 α1 α2 α3 α4 α5 α6 α7 α8 α9 α10 : Type} {E : α0 → α1 → α2 → α3 → α4 → α5 → α6 → α7 → α8 → α9 → α10 → Env} {Φ : α0 → α1 → α2 → α3 → α4 → α5 → α6 → α7 → α8 → α9 → α10 → World → Prop} {μ : α0 → α1 → α2 → α3 → α4 → α5 → α6 → α7 → α8 → α9 → α10 → Nat} {x0 : α0} {x1 : α1} {x2 : α2} {x3 : α3} {x4 : α4} {x5 : α5} {x6 : α6} {x7 : α7} {x8 : α8} {x9 : α9} {x10 : α10} (h : Q .ret env w) : lp11 E Φ μ x0 x1 x2 x3 x4 x5 x6 x7 x8 x9 x10 Q .ret env w := h
theorem lp11_exit {α0 α1 α2 α3 α4 α5 α6 α7 α8 α9 α10 : Type} {E : α0 → α1 → α2 → α3 → α4 → α5 → α6 → α7 → α8 → α9 → α10 → Env} {Φ : α0 → α1 → α2 → α3 → α4 → α5 → α6 → α7 → α8 → α9 → α10 → World → Prop} {μ : α0 → α1 → α2 → α3 → α4 → α5 → α6 → α7 → α8 → α9 → α10 → Nat} {x0 : α0} {x1 : α1} {x2 : α2} {x3 : α3} {x4 : α4} {x5 : α5} {x6 : α6} {x7 : α7} {x8 : α8} {x9 : α9} {x10 : α10} (h : Q (.exit i) env w) : lp11 E Φ μ x0 x1 x2 x3 x4 x5 x6 x7 x8 x9 x10 Q (.exit i) env w := h

def lp12 {α0 α1 α2 α3 α4 α5 α6 α7 α8 α9 α10 α11 : Type} (E : α0 → α1 → α2 → α3 → α4 → α5 → α6 → α7 → α8 → α9 → α10 → α11 → Env) (Φ : α0 → α1 → α2 → α3 → α4 → α5 → α6 → α7 → α8 → α9 → α10 → α11 → World → Prop) (μ : α0 → α1 → α2 → α3 → α4 → α5 → α6 → α7 → α8 → α9 → α10 → α11 → Nat) (x0 : α0) (x1 : α1) (x2 : α2) (x3 : α3) (x4 : α4) (x5 : α5) (x6 : α6) (x7 : α7) (x8 : α8) (x9 : α9) (x10 : α10) (x11 : α11) (Q : Post) : Post :=
  lp (fun p : α0 × α1 × α2 × α3 × α4 × α5 × α6 × α7 × α8 × α9 × α10 × α11 => E p.1 p.2.1 p.2.2.1 p.2.2.2.1 p.2.2.2.2.1 p.2.2.2.2.2.1 p.2.2.2.2.2.2.1 p.2.2.2.2.2.2.2.1 p.2.2.2.2.2.2.2.2.1 p.2.2.2.2.2.2.2.2.2.1 p.2.2.2.2.2.2.2.2.2.2.1 p.2.2.2.2.2.2.2.2.2.2.2) (fun p => Φ p.1 p.2.1 p.2.2.1 p.2.2.2.1 p.2.2.2.2.1 p.2.2.2.2.2.1 p.2.2.2.2.2.2.1 p.2.2.2.2.2.2.2.1 p.2.2.2.2.2.2.2.2.1 p.2.2.2.2.2.2.2.2.2.1 p.2.2.2.2.2.2.2.2.2.2.1 p.2.2.2.2.2.2.2.2.2.2.2) (fun p => μ p.1 p.2.1 p.2.2.1 p.2.2.2.1 p.2.2.2.2.1 p.2.2.2.2.2.1 p.2.2.2.2.2.2.1 p.2.2.2.2.2.2.2.1 p.2.2.2.2.2.2.2.2.1 p.2.2.2.2.2.2.2.2.2.1 p.2.2.2.2.2.2.2.2.2.2.1 p.2.2.2.2.2.2.2.2.2.2.2) (x0, x1, x2, x3, x4, x5, x6, x7, x8, x9, x10, x11) Q
theorem wc_loop12 {α0 α1 α2 α3 α4 α5 α6 α7 α8 α9 α10 α11 : Type} (E : α0 → α1 → α2 → α3 → α4 → α5 → α6 → α7 → α8 → α9 → α10 → α11 → Env) (Φ : α0 → α1 → α2 → α3 → α4 → α5 → α6 → α7 → α8 → α9 → α10 → α11 → World → Prop) (μ : α0 → α1 → α2 → α3 → α4 → α5 → α6 → α7 → α8 → α9 → α10 → α11 → Nat) (x0 : α0) (x1 : α1) (x2 : α2) (x3 : α3) (x4 : α4) (x5 : α5) (x6 : α6) (x7 : α7) (x8 : α8) (x9 : α9) (x10 : α10) (x11 : α11) (hc : Cov env (E x0 x1 x2 x3 x4 x5 x6 x7 x8 x9 x10 x11)) (h0 : Φ x0 x1 x2 x3 x4 x5 x6 x7 x8 x9 x10 x11 w)
    (hr : ∀ y0 y1 y2 y3 y4 y5 y6 y7 y8 y9 y10 y11 w, Φ y0 y1 y2 y3 y4 y5 y6 y7 y8 y9 y10 y11 w → WC P n c (lp12 E Φ μ y0 y1 y2 y3 y4 y5 y6 y7 y8 y9 y10 y11 Q) (E y0 y1 y2 y3 y4 y5 y6 y7 y8 y9 y10 y11) w) : WC P n (.loop c) Q env w :=
  wc_loop (fun p : α0 × α1 × α2 × α3 × α4 × α5 × α6 × α7 × α8 × α9 × α10 × α11 => E p.1 p.2.1 p.2.2.1 p.2.2.2.1 p.2.2.2.2.1 p.2.2.2.2.2.1 p.2.2.2.2.2.2.1 p.2.2.2.2.2.2.2.1 p.2.2.2.2.2.2.2.2.1 p.2.2.2.2.2.2.2.2.2.1 p.2.2.2.2.2.2.2.2.2.2.1 p.2.2.2.2.2.2.2.2.2.2.2) (fun p => Φ p.1 p.2.1 p.2.2.1 p.2.2.2.1 p.2.2.2.2.1 p.2.2.2.2.2.1 p.2.2.2.2.2.2.1 p.2.2.2.2.2.2.2.1 p.2.2.2.2.2.2.2.2.1 p.2.2.2.2.2.2.2.2.2.1 p.2.2.2.2.2.2.2.2.2.2.1 p.2.2.2.2.2.2.2.2.2.2.2) (fun p => μ p.1 p.2.1 p.2.2.1 p.2.2.2.1 p.2.2.2.2.1 p.2.2.2.2.2.1 p.2.2.2.2.2.2.1 p.2.2.2.2.2.2.2.1 p.2.2.2.2.2.2.2.2.1 p.2.2.2.2.2.2.2.2.2.1 p.2.2.2.2.2.2.2.2.2.2.1 p.2.2.2.2.2.2.2.2.2.2.2) (x0, x1, x2, x3, x4, x5, x6, x7, x8, x9, x10, x11) hc h0 fun p w h => hr p.1 p.2.1 p.2.2.1 p.2.2.2.1 p.2.2.2.2.1 p.2.2.2.2.2.1 p.2.2.2.2.2.2.1 p.2.2.2.2.2.2.2.1 p.2.2.2.2.2.2.2.2.1 p.2.2.2.2.2.2.2.2.2.1 p.2.2.2.2.2.2.2.2.2.2.1 p.2.2.2.2.2.2.2.2.2.2.2 w h
theorem lp_end12 {α0 α1 α2 α3 α4 α5 α6 α7 α8 α9 α10 α11 : Type} {E : α0 → α1 → α2 → α3 → α4 → α5 → α6 → α7 → α8 → α9 → α10 → α11 → Env} {Φ : α0 → α1 → α2 → α3 → α4 → α5 → α6 → α7 → α8 → α9 → α10 → α11 → World → Prop} {μ : α0 → α1 → α2 → α3 → α4 → α5 → α6 → α7 → α8 → α9 → α10 → α11 → Nat} {x0 : α0} {x1 : α1} {x2 : α2} {x3 : α3} {x4 : α4} {x5 : α5} {x6 : α6} {x7 : α7} {x8 : α8} {x9 : α9} {x10 : α10} {x11 : α11} (y0 : α0) (y1 : α1) (y2 : α2) (y3 : α3) (y4 : α4) (y5 : α5) (y6 : α6) (y7 : α7) (y8 : α8) (y9 : α9) (y10 : α10) (y11 : α11) (hm : μ y0 y1 y2 y3 y4 y5 y6 y7 y8 y9 y10 y11 < μ x0 x1 x2 x3 x4 x5 x6 x7 x8 x9 x10 x11) (hc : Cov env (E y0 y1 y2 y3 y4 y5 y6 y7 y8 y9 y10 y11)) (h : Φ y0 y1 y2 y3 y4 y5 y6 y7 y8 y9 y10 y11 w) : lp12 E Φ μ x0 x1 x2 x3 x4 x5 x6 x7 x8 x9 x10 x11 Q .normal env w := ⟨(y0, y1, y2, y3, y4, y5, y6, y7, y8, y9, y10, y11), hm, hc, h⟩
theorem lp12_ret {α0 α1 α2 α3 α4 α5 α6 α7 α8 α9 α10 α11 : Type} {E : α0 → α1 → α2 → α3 → α4 → α5 → α6 → α7 → α8 → α9 → α10 → α11 → Env} {Φ : α0 → α1 → α2 → α3 → α4 → α5 → α6 → α7 → α8 → α9 → α10 → α11 → World → Prop} {μ : α0 → α1 → α2 → α3 → α4 → α5 → α6 → α7 → α8 → α9 → α10 → α11 → Nat} {x0 : α0} {x1 : α1} {x2 : α2} {x3 : α3} {x4 : α4} {x5 : α5} {x6 : α6} {x7 : α7} {x8 : α8} {x9 : α9} {x10 : α10} {x11 : α11} (h : Q .ret env w) : lp12 E Φ μ x0 x1 x2 x3 x4 x5 x6 x7 x8 x9 x10 x11 Q .ret env w := h
theorem lp12_exit {α0 α1 α2 α3 α4 α5 α6 α7 α8 α9 α10 α11 : Type} {E : α0 → α1 → α2 → α3 → α4 → α5 → α6 → α7 → α8 → α9 → α10 → α11 → Env} {Φ : α0 → α1 → α2 → α3 → α4 → α5 → α6 → α7 → α8 → α9 → α10 → α11 → World → Prop} {μ : α0 → α1 → α2 → α3 → α4 → α5 → α6 → α7 → α8 → α9 → α10 → α11 → Nat} {x0 : α0} {x1 : α1} {x2 : α2} {x3 : α3} {x4 : α4} {x5 : α5} {x6 : α6} {x7 : α7} {x8 : α8} {x9 : α9} {x10 : α10} {x11 : α11} (h : Q (.exit i) env w) : lp12 E Φ μ x0 x1 x2 x3 x4 x5 x6 x7 x8 x9 x10 x11 Q (.exit i) env w := h

end

def fB (n : UInt8) : List Value := [.int .u8 (n.toNat : Int)]
theorem u8_le (n : UInt8) : n.toNat ≤ 255 := by have := n.toNat_lt; omega

theorem opens_u8 {P : Program} {t : TypeId} (ht : P.underlying t = some (.int .u8)) : Opens P t (fun n : UInt8 => dFl (fB n)) 1 := fun enc w base spare held fuel cs x h => by
  obtain ⟨n, rfl, _, hw⟩ := DataW.trod_int ht h
  have h1 : IntKind.u8.min = 0 := rfl
  have h2 : IntKind.u8.max = 255 := rfl
  have hr : 0 ≤ n ∧ n ≤ 255 := by simpa [Lit.wf, h1, h2] using hw
  refine ⟨rfl, UInt8.ofNat n.toNat, ?_⟩
  show [Value.int .u8 n] = fB _
  unfold fB
  have : (UInt8.ofNat n.toNat).toNat = n.toNat := by
    rw [UInt8.toNat_ofNat', Nat.mod_eq_of_lt (by omega)]
  rw [this, Int.toNat_of_nonneg hr.1]

theorem getD_mem {T : Type} (l : List T) (i : Nat) (d : T) (h : i < l.length) : l.getD i d ∈ l := by
  rw [List.getD_eq_getElem?_getD, List.getElem?_eq_getElem h]
  exact List.getElem_mem h

end Go.Proofs.Ythnnhoabdhhkaaa
