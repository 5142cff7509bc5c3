/- The second layer, part S: rows whose elements are taken out, one after the other. No condition. -/
import Derived.Test.YtlgmikaemfbmaaaGreatNr
namespace Go.Proofs.YtlgmikaemfbmaaaGreat
open Go.RowKit

section
variable {w0 : Base} {w : World} {m : List As} {rs : List Rd} {T : Type} {k q : Nat} {f : T → List Ce} {L : List T} {v : Value}

end

section
variable {P : Program} {n : Nat} {env : Env} {w : World} {d : Option Tmp} {ty : TypeId} {pos : String} {af : Array Edge} {g : Option (Nat × Bool)} {k n0 : Nat} {v : Value}
end
section
variable {P : Program} {n : Nat} {env : Env} {w : World} {d : Option Tmp} {ty : TypeId} {pos : String} {af : Array Edge} {g : Option (Nat × Bool)}
/-- A number cut to a byte. -/
def y8 (n : Int) : UInt8 := UInt8.ofNat (n % 256).toNat
theorem y8_val (n : Int) : IntKind.u8.wrap n = ((y8 n).toNat : Int) := by
  unfold IntKind.wrap y8
  have h0 := Int.emod_nonneg n (show (256 : Int) ≠ 0 by decide)
  have h1 := Int.emod_lt_of_pos n (show (0 : Int) < 256 by decide)
  simp only [IntKind.signed, IntKind.bits, UInt8.toNat_ofNat']
  first
    | (simp; omega)
    | (simp [BitVec.toNat_ofInt]; omega)
theorem r_cvt8 {x : Operand} {s t : TypeId} {k' : IntKind} {td : TypeDesc} {i : Int} (hs : P.underlying s = some td) (ht : P.underlying t = some (.int .u8)) (hx : ev env x = some (.int k' i)) :
    Runs P n env w ⟨d, .convert s t x, ty, pos, af, g⟩ (.int .u8 ((y8 i).toNat : Int)) w := fun a ha => by
  simp [execOp, ha.ev hx, convert, run_underlying hs, run_underlying ht, Conv.intToInt, y8_val]
end
section
variable {P : Program} {n : Nat} {Q : Post} {env : Env} {w : World} {c : Code} {ops : Array Oper} {l rest : List Oper} {ty : TypeId} {pos : String} {af : Array Edge} {r : List (Oper × Nat)}
-- Steps that often come together
theorem wl_sq (h : WC P n c Q env w) : WL P n ops [] (sq P n c Q) env w := wl_nil (sq_n h)
theorem wc_sr {id : Nat} {y : Code} (h : WL P n l.toArray l (sq P n y Q) env w) : WC P n (.seq (.region id l.toArray false) y) Q env w := wc_seq (wc_region h)
theorem wmv {d : Nat} {x : Operand} {v : Value} (hd : Nat.blt d n = true) (hx : ev env x = some v) (h : WL P n ops rest Q ((d, v) :: env) w) : WL P n ops (⟨some d, .move x, ty, pos, af, none⟩ :: rest) Q env w := wv hd (r_move hx) h
theorem was {d : Nat} {x : Operand} {v : Value} (hd : Nat.blt d n = true) (hx : ev env x = some v) (h : WL P n ops rest Q ((d, v) :: env) w) : WL P n ops (⟨some d, .assign x, ty, pos, af, none⟩ :: rest) Q env w := wv hd (r_assign hx) h
theorem omv {d : Nat} {x : Operand} {v : Value} (hd : Nat.blt d n = true) (hx : ev env x = some v) (h : WO P n ops Q r ((d, v) :: env) w) : WO P n ops Q ((⟨some d, .move x, ty, pos, af, none⟩, 0) :: r) env w := ov hd (fun _ _ => r_move hx) h
theorem o_nilM {w0 : Base} {m : List As} {rs : List Rd} (hM : St w0 m rs w) (h : ∀ w1, St w0 m rs w1 → Q .normal env w1) : WO P n ops Q [] env w := o_nil fun w1 h1 => h w1 (hM.call h1)
end
end Go.Proofs.YtlgmikaemfbmaaaGreat
