/- The second layer, part O: small rules. No condition. -/
import Derived.Test.YtjbonmmmcnpjiaaGreatDoorNn
namespace Go.Proofs.YtjbonmmmcnpjiaaGreatDoor
open Go.RowKit

/-- The nil slice. -/
def nS : Sv := ⟨none, 0, 0⟩

section
variable {w0 : Base} {w w' : World} {m l l' own : List As} {rs rs' : List Rd} {c c' : Ce} {v : Value} {S : Bs}
variable {T : Type} {k : Nat} {f : T → List Ce} {L : List T}

theorem St.nil0 (h : St w0 m rs w) (k : Nat) (f : T → List Ce) : St w0 (oC (cSl k f ([] : List T)) nS.v :: m) rs w := h.nil k f
theorem St.nilS0 (h : St w0 m rs w) (k : Nat) (f : T → List Ce) : St w0 (oRow k nS.v ([] : List T).length ([] : List Value) :: m) (rX ([] : List Value) (([] : List T).flatMap f) :: rs) w := h.nilS k f
theorem St.nilR0 (h : St w0 m rs w) (k : Nat) (f : T → List Ce) : St w0 m (rV nS.v (cSl k f ([] : List T)) :: rs) w := h.nilR k f

theorem St.unVs {o : As} {vl : List Vi} {lr : List Rd} (h : St w0 (oV o vl :: m) rs w) (hr : ∀ F, (∀ x ∈ vl, x.ok F w) → o.ok F w → ∀ r ∈ lr, r.ok F w) : St w0 m (lr ++ rs) w := by
  obtain ⟨h1, hb, F, ⟨h0, F1, F2, ⟨g1, gv⟩, g2, g3, g4, g5⟩, h3, h4⟩ := h
  refine ⟨h1, hb, F2, g2, fun b hb' => h3 b (g5 b hb'), fun r hr' => ?_⟩
  rcases List.mem_append.1 hr' with hr' | hr'
  · refine r.mono (fun b hb' => ⟨?_, h0 b (g4 b hb'), g3 b hb'⟩) (Lc.refl _ _) (hr F1 gv g1 r hr')
    exact .inr ((h3 b (g4 b hb')).elim .inr .inl)
  · exact r.mono (fun b hb' => ⟨hb'.1, hb'.2.1, fun h' => hb'.2.2 (g5 b h')⟩) (Lc.refl _ _) (h4 r hr')

theorem St.fewer (h : St w0 m rs w) (hs : ∀ r ∈ rs', r ∈ rs) : St w0 m rs' w := by
  obtain ⟨h1, hb, F, h2, h3, h4⟩ := h
  exact ⟨h1, hb, F, h2, h3, fun r hr => h4 r (hs r hr)⟩
theorem rsN : ∀ r ∈ ([] : List Rd), r ∈ rs := fun _ h => by cases h
theorem rsC {a : Rd} (h : a ∈ rs) (t : ∀ r ∈ rs', r ∈ rs) : ∀ r ∈ a :: rs', r ∈ rs := fun r hr => by
  rcases List.mem_cons.1 hr with rfl | hr
  · exact h
  · exact t r hr

theorem pY {e : Int} (h : 0 ≤ e ∧ e ≤ 255) : ∀ w, (oC (cY (UInt8.ofNat e.toNat)) (.int .u8 e)).ok (fun _ => False) w := fun _ => by
  refine ⟨?_, fun _ h => h.elim⟩
  have : (UInt8.ofNat e.toNat).toNat = e.toNat := by rw [UInt8.toNat_ofNat', Nat.mod_eq_of_lt (by omega)]
  rw [this, Int.toNat_of_nonneg h.1]

end

section
variable {P : Program} {n : Nat} {env : Env} {w : World} {d : Option Tmp} {ty : TypeId} {pos : String} {af : Array Edge} {g : Option (Nat × Bool)} {Q : Post}

theorem r_lenS {x : Operand} {t e : TypeId} {k q : Nat} {v : Value} {xs : List Value} (ht : P.underlying t = some (.slice e)) (hx : ev env x = some v) (h : ∃ F, (oRow k v q xs).ok F w) :
    Runs P n env w ⟨d, .call { callee := .builtin .len, args := #[x], argTypes := #[t] }, ty, pos, af, g⟩ (.int .i64 (q : Int)) w := by
  obtain ⟨F, _, _, ⟨rfl, rfl⟩ | ⟨b, off, cap, cur, e', hd, rfl, _⟩⟩ := h
  · exact r_len ht hx
  · exact r_len ht hx

theorem r_mkfn {f : FuncId} {caps : List Operand} {vs : List Value} (h : evs env caps = some vs) : Runs P n env w ⟨d, .makeFunc (.func f) #[] caps.toArray, ty, pos, af, g⟩ (.func (.func f) #[] vs.toArray) w := fun a ha => by
  have h1 := ha.evs _ _ h
  simp only [execOp, Instr.makeFunc, List.map_toArray, h1, Sem.run_bind, Sem.run_pure, Result.andThen_ok]
  rfl

theorem r_max {x y : Operand} {t : TypeId} {i j : Int} {td : TypeDesc} (_ : P.underlying t = some td) (hx : ev env x = some (.int .i64 i)) (hy : ev env y = some (.int .i64 j)) :
    Runs P n env w ⟨d, .call { callee := .builtin .max, args := #[x, y], argTypes := #[t, t] }, ty, pos, af, g⟩ (.int .i64 (max i j)) w := fun a ha => by
  have : (if i < j then j else i) = max i j := by split <;> omega
  simp [execOp, resolve, invoke, builtin, ha.ev hx, ha.ev hy, Builtin.max_, Builtin.max2, this]
theorem r_min {x y : Operand} {t : TypeId} {i j : Int} {td : TypeDesc} (_ : P.underlying t = some td) (hx : ev env x = some (.int .i64 i)) (hy : ev env y = some (.int .i64 j)) :
    Runs P n env w ⟨d, .call { callee := .builtin .min, args := #[x, y], argTypes := #[t, t] }, ty, pos, af, g⟩ (.int .i64 (min i j)) w := fun a ha => by
  have : (if j < i then j else i) = min i j := by split <;> omega
  simp [execOp, resolve, invoke, builtin, ha.ev hx, ha.ev hy, Builtin.min_, Builtin.min2, this]

theorem u8_cvt (x : UInt8) : IntKind.i64.wrap (x.toNat : Int) = (x.toNat : Int) := i64_in (by have := x.toNat_lt; omega)

theorem lp_end {α : Type} {E : α → Env} {Φ : α → World → Prop} {μ : α → Nat} {x : α} (y : α) (hm : μ y < μ x) (hc : Cov env (E y)) (h : Φ y w) : lp E Φ μ x Q .normal env w := ⟨y, hm, hc, h⟩

theorem rv_box {w0 : Base} {m : List As} {rs : List Rd} {a t b : Nat} {fs : Array Field} {size bytes : Nat} {z : Value} {cs : List Value} {e : TypeId} (ht : P.underlying t = some (.struct fs)) (hs : Sz P t size bytes z) (hl : cs.length = size) (hx : lk env a = some (.pointer (some ⟨b, 0, none⟩)))
    (hM : St w0 m rs w) (hm : oBox b cs.toArray e ∈ m) : RV P w env (.cell a t) (.agg cs.toArray) := by
  refine ⟨_, hx, ?_⟩
  have h1 := run_loadCells_list (P := P) (w := w) ⟨b, 0, none⟩ cs (fun j u hj => by rw [Addr.add_lit, Nat.zero_add]; exact box_cell hM hm (by simpa using hj))
  rw [hl] at h1
  simp [loadVar, isAgg, run_underlying ht, hs.run, h1]

theorem rv_box1 {w0 : Base} {m : List As} {rs : List Rd} {a t b : Nat} {td : TypeDesc} {cs : Array Value} {v : Value} {e : TypeId} (ht : P.underlying t = some td) (hn : noAgg td = true) (hx : lk env a = some (.pointer (some ⟨b, 0, none⟩)))
    (hM : St w0 m rs w) (hm : oBox b cs e ∈ m) (hc : cs[0]? = some v) : RV P w env (.cell a t) v := by
  refine ⟨_, hx, ?_⟩
  have h1 := box_cell hM hm hc
  have hagg : (isAgg t).run P w = .ok false w := by
    simp only [isAgg, Sem.run_bind, run_underlying ht, Result.andThen_ok]
    cases td <;> first | rfl | cases hn
  simp only [loadVar, Sem.run_bind, hagg, Result.andThen_ok, Bool.false_eq_true, if_false, run_load, h1]

end
end Go.Proofs.YtjbonmmmcnpjiaaGreatDoor
