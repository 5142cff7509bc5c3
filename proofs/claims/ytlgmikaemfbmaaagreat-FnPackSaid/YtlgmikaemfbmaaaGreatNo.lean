/- The second layer, part O: small rules. No condition. -/
import Derived.Test.YtlgmikaemfbmaaaGreatNn
namespace Go.Proofs.YtlgmikaemfbmaaaGreat
open Go.RowKit

/-- The nil slice. -/
def nS : Sv := ⟨none, 0, 0⟩

section
variable {w0 : Base} {w w' : World} {m l l' own : List As} {rs rs' : List Rd} {c c' : Ce} {v : Value} {S : Bs}
variable {T : Type} {k : Nat} {f : T → List Ce} {L : List T}

theorem St.nil0 (h : St w0 m rs w) (k : Nat) (f : T → List Ce) : St w0 (oC (cSl k f ([] : List T)) nS.v :: m) rs w := h.nil k f
theorem St.fewer (h : St w0 m rs w) (hs : ∀ r ∈ rs', r ∈ rs) : St w0 m rs' w := by
  obtain ⟨h1, hb, F, h2, h3, h4⟩ := h
  exact ⟨h1, hb, F, h2, h3, fun r hr => h4 r (hs r hr)⟩
theorem rsN : ∀ r ∈ ([] : List Rd), r ∈ rs := fun _ h => by cases h
theorem rsC {a : Rd} (h : a ∈ rs) (t : ∀ r ∈ rs', r ∈ rs) : ∀ r ∈ a :: rs', r ∈ rs := fun r hr => by
  rcases List.mem_cons.1 hr with rfl | hr
  · exact h
  · exact t r hr

theorem pY {e : Int} (h : 0 ≤ e ∧ e ≤ 255) : ∀ w, (oC (cY (UInt8.ofNat e.toNat)) (.int .u8 e)).ok (fun _ => False) w := fun _ => by
  refine ⟨?_, fun _ h => h.elim⟩
  have : (UInt8.ofNat e.toNat).toNat = e.toNat := by rw [UInt8.toNat_ofNat', Nat.mod_eq_of_lt (by omega)]
  rw [this, Int.toNat_of_nonneg h.1]

end

section
variable {P : Program} {n : Nat} {env : Env} {w : World} {d : Option Tmp} {ty : TypeId} {pos : String} {af : Array Edge} {g : Option (Nat × Bool)} {Q : Post}

theorem r_mkfn {f : FuncId} {caps : List Operand} {vs : List Value} (h : evs env caps = some vs) : Runs P n env w ⟨d, .makeFunc (.func f) #[] caps.toArray, ty, pos, af, g⟩ (.func (.func f) #[] vs.toArray) w := fun a ha => by
  have h1 := ha.evs _ _ h
  simp only [execOp, Instr.makeFunc, List.map_toArray, h1, Sem.run_bind, Sem.run_pure, Result.andThen_ok]
  rfl

theorem u8_cvt (x : UInt8) : IntKind.i64.wrap (x.toNat : Int) = (x.toNat : Int) := i64_in (by have := x.toNat_lt; omega)

theorem lp_end {α : Type} {E : α → Env} {Φ : α → World → Prop} {μ : α → Nat} {x : α} (y : α) (hm : μ y < μ x) (hc : Cov env (E y)) (h : Φ y w) : lp E Φ μ x Q .normal env w := ⟨y, hm, hc, h⟩

theorem rv_box {w0 : Base} {m : List As} {rs : List Rd} {a t b : Nat} {fs : Array Field} {size bytes : Nat} {z : Value} {cs : List Value} {e : TypeId} (ht : P.underlying t = some (.struct fs)) (hs : Sz P t size bytes z) (hl : cs.length = size) (hx : lk env a = some (.pointer (some ⟨b, 0, none⟩)))
    (hM : St w0 m rs w) (hm : oBox b cs.toArray e ∈ m) : RV P w env (.cell a t) (.agg cs.toArray) := by
  refine ⟨_, hx, ?_⟩
  have h1 := run_loadCells_list (P := P) (w := w) ⟨b, 0, none⟩ cs (fun j u hj => by rw [Addr.add_lit, Nat.zero_add]; exact box_cell hM hm (by simpa using hj))
  rw [hl] at h1
  simp [loadVar, isAgg, run_underlying ht, hs.run, h1]

end
end Go.Proofs.YtlgmikaemfbmaaaGreat
