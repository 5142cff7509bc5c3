/- The second layer, part S: rows whose elements are taken out, one after the other. No condition. -/
import Derived.Test.YtjbonmmmcnpjiaaGreatDoorNr
namespace Go.Proofs.YtjbonmmmcnpjiaaGreatDoor
open Go.RowKit

/-- A row, and what its elements own from one of them on. -/
def oEat (k : Nat) {T : Type} (f : T → List Ce) (L : List T) (v : Value) (q : Nat) : As where
  ok := fun F w => ∃ xs : List Value, (L.flatMap f).length = xs.length ∧ Sep (oRow k v L.length xs :: zipC ((L.drop q).flatMap f) (xs.drop (q * k))) F w
  loc := fun h ⟨xs, h1, h3⟩ => ⟨xs, h1, h3.loc h⟩
  lt := fun ⟨_, _, h3⟩ hb => h3.lt _ hb
  up := fun hs hl ⟨xs, h1, h3⟩ => ⟨xs, h1, h3.up hs hl⟩

def EatP (v : Value) (n : Nat) : Prop := ∃ b off cap, v = .slice (some ⟨b, off, none⟩) n cap

section
variable {w0 : Base} {w : World} {m : List As} {rs : List Rd} {T : Type} {k q : Nat} {f : T → List Ce} {L : List T} {v : Value}

theorem St.toEat (h : St w0 (oC (cSl k f L) v :: m) rs w) : St w0 (oEat k f L v 0 :: m) rs w :=
  St.iso (l := [oC (cSl k f L) v]) (l' := [oEat k f L v 0]) h fun _ ⟨h0, F1, F2, ⟨xs, e, hs⟩, h2, h3, h4, h5⟩ => ⟨h0, F1, F2, ⟨xs, e, by simpa using hs⟩, h2, h3, h4, h5⟩
theorem St.eatRow (h : St w0 m rs w) (hm : oEat k f L v q ∈ m) : ∃ F xs, (oRow k v L.length xs).ok F w := by
  obtain ⟨F, xs, _, hs⟩ := h.at' hm
  obtain ⟨_, F1, _, h1, _⟩ := hs
  exact ⟨F1, xs, h1⟩
theorem St.eatLe (h : St w0 m rs w) (hm : oEat k f L v q ∈ m) : (L.length : Int) ≤ 9223372036854775807 := by
  obtain ⟨F, xs, _, _, ⟨_, hn⟩ | ⟨b, off, cap, cur, e, hd, rfl, _, _, h1, h2, _⟩⟩ := h.eatRow hm
  · omega
  · simp only [maxLen] at h2; omega
theorem St.eatP (h : St w0 m rs w) (hm : oEat k f L v q ∈ m) {i : Nat} (hi : i < L.length) : EatP v L.length := by
  obtain ⟨F, xs, _, _, ⟨_, hn⟩ | ⟨b, off, cap, cur, e, hd, rfl, _⟩⟩ := h.eatRow hm
  · omega
  · exact ⟨b, off, cap, rfl⟩

theorem cellsAt_of : ∀ {us : List Value} {o : Nat}, (∀ j u, us[j]? = some u → w.cell? (eaddr v (o + j)) = some u) → cellsAt w v o us
  | [], _, _ => trivial
  | u :: us, o, h => ⟨by simpa using h 0 u rfl, cellsAt_of (o := o + 1) fun j u hj => by
      have := h (j + 1) u (by simpa using hj)
      rwa [show o + (j + 1) = o + 1 + j by omega] at this⟩

/-- The next element is taken out. -/
theorem St.bite [Inhabited T] (h : St w0 (oEat k f L v q :: m) rs w) (hf : ∀ x, (f x).length = k) (hq : q < L.length) :
    ∃ us : List Value, us.length = k ∧ St w0 (zipC (f (el L q)) us ++ (oEat k f L v (q + 1) :: m)) rs w ∧ ∀ w1, Rel w w1 → cellsAt w1 v (q * k) us := by
  obtain ⟨h1, hb, F, h2, h3, h4⟩ := h
  obtain ⟨h0, F1, F2, ⟨xs, e, hs⟩, g2, g3, g4, g5⟩ := h2
  have hlen := hs.len_row
  have hs' := hs
  obtain ⟨_, _, _, hrow, _⟩ := hs'
  have hle : q * k + k ≤ L.length * k := by rw [← Nat.succ_mul]; exact Nat.mul_le_mul_right k hq
  have hd : L.drop q = el L q :: L.drop (q + 1) := by
    rw [List.drop_eq_getElem_cons hq]
    congr 1
    unfold el
    simp [List.getD_eq_getElem?_getD, hq]
  have hus : ((xs.drop (q * k)).take k).length = k := by rw [List.length_take, List.length_drop]; omega
  have hx : xs.drop (q * k) = (xs.drop (q * k)).take k ++ xs.drop ((q + 1) * k) := by
    rw [Nat.succ_mul, ← List.drop_drop, List.take_append_drop]
  rw [hd, List.flatMap_cons, hx, zipC_append (by rw [hf, hus])] at hs
  have hs2 : Sep (zipC (f (el L q)) ((xs.drop (q * k)).take k) ++ (oRow k v L.length xs :: zipC ((L.drop (q + 1)).flatMap f) (xs.drop ((q + 1) * k)))) F1 w := hs.perm List.perm_middle.symm
  obtain ⟨G1, G2, a1, a2, a3, a4, a5⟩ := hs2.split
  have j2 : Sep (oEat k f L v (q + 1) :: m) (fun b => G2 b ∨ F2 b) w :=
    ⟨fun b hb => hb.elim (a2.lt b) (g2.lt b), G2, F2, ⟨xs, e, a2⟩, g2, (fun b hb h' => g3 b (a5 b hb) h'), (fun _ h => .inl h), fun _ h => .inr h⟩
  have j3 := Sep.join a1 j2 fun b hb h' => h'.elim (a3 b hb) (g3 b (a4 b hb))
  refine ⟨_, hus, ⟨h1, hb, F, j3.up (fun b hb => hb.elim (fun h => g4 b (a4 b h)) fun h => h.elim (fun h => g4 b (a5 b h)) (g5 b)) h0, h3, h4⟩, fun w1 hw => cellsAt_of fun j u hj => ?_⟩
  have hj2 : xs[q * k + j]? = some u := by
    have hjk : j < k := by
      have := (List.getElem?_eq_some_iff.1 hj).1
      rw [hus] at this; exact this
    rw [List.getElem?_take_of_lt hjk, List.getElem?_drop] at hj
    exact hj
  have hc := row_cell hrow hj2
  refine (hw.cell ?_).trans hc
  obtain ⟨_, _, ⟨_, hn⟩ | ⟨b, off, cap, cur, e', hd', rfl, hbF, ⟨hg, _⟩, _⟩⟩ := hrow
  · omega
  · exact (Array.getElem?_eq_some_iff.1 hg).1

theorem St.valV {u u0 : Value} {hu : u.oneCell' = true} (h : St w0 (oC (cV u hu) u0 :: m) rs w) : u0 = u ∧ St w0 m rs w := by
  refine ⟨?_, h.drop⟩
  obtain ⟨F, h1⟩ := h.at' (a := oC (cV u hu) u0) (.head _)
  exact h1.1
theorem St.valS {T' : Type} {k' : Nat} {f' : T' → List Ce} {L' : List T'} {u : Value} (h : St w0 (oC (cSl k' f' L') u :: m) rs w) : ∃ s : Sv, u = s.v ∧ St w0 (oC (cSl k' f' L') s.v :: m) rs w := by
  obtain ⟨s, e⟩ := Cs.sv (h.seeO (.head _))
  exact ⟨s, e, e ▸ h⟩
theorem lst1 {us : List Value} (h : us.length = 1) : ∃ a, us = [a] := by
  match us, h with
  | [a], _ => exact ⟨a, rfl⟩
theorem lst2 {us : List Value} (h : us.length = 2) : ∃ a b, us = [a, b] := by
  match us, h with
  | [a, b], _ => exact ⟨a, b, rfl⟩
theorem lst3 {us : List Value} (h : us.length = 3) : ∃ a b c, us = [a, b, c] := by
  match us, h with
  | [a, b, c], _ => exact ⟨a, b, c, rfl⟩
end

section
variable {P : Program} {n : Nat} {env : Env} {w : World} {d : Option Tmp} {ty : TypeId} {pos : String} {af : Array Edge} {g : Option (Nat × Bool)} {k n0 : Nat} {v : Value}
theorem r_ixE {x y : Operand} {t e : TypeId} {bytes : Nat} {z : Value} {i : Int} (ht : P.underlying t = some (.slice e)) (hs : Sz P e k bytes z)
    (hx : ev env x = some v) (hy : ev env y = some (.int .i64 i)) (h : EatP v n0) (h0 : 0 ≤ i ∧ i < (n0 : Int)) :
    Runs P n env w ⟨d, .indexAddr t x y, ty, pos, af, g⟩ (.pointer (some (eaddr v (i.toNat * k)))) w := fun a ha => by
  obtain ⟨b, off, cap, rfl⟩ := h
  simp [execOp, ha.ev hx, ha.ev hy, Instr.indexAt, run_underlying ht, asIntOf, h0, hs.run, eaddr, Addr.add_lit]
theorem r_ldE {x : Operand} {t : TypeId} {fs : Array Field} {size bytes : Nat} {z : Value} {o : Nat} {us : List Value} (ht : P.underlying t = some (.struct fs)) (hs : Sz P t size bytes z) (hx : ev env x = some (.pointer (some (eaddr v o)))) (hl : us.length = size)
    (h : EatP v n0) (hc : cellsAt w v o us) : Runs P n env w ⟨d, .load t x, ty, pos, af, g⟩ (.agg us.toArray) w := by
  obtain ⟨b, off, cap, rfl⟩ := h
  refine r_ldS ht hs hx hl fun j u hj => ?_
  simpa [eaddr, Addr.add_lit, Nat.add_assoc] using cellsAt_get hc hj
end
section
variable {P : Program} {n : Nat} {env : Env} {w : World} {d : Option Tmp} {ty : TypeId} {pos : String} {af : Array Edge} {g : Option (Nat × Bool)}
/-- A number cut to a byte. -/
def y8 (n : Int) : UInt8 := UInt8.ofNat (n % 256).toNat
theorem y8_val (n : Int) : IntKind.u8.wrap n = ((y8 n).toNat : Int) := by
  unfold IntKind.wrap y8
  have h0 := Int.emod_nonneg n (show (256 : Int) ≠ 0 by decide)
  have h1 := Int.emod_lt_of_pos n (show (0 : Int) < 256 by decide)
  simp only [IntKind.signed, IntKind.bits, UInt8.toNat_ofNat']
  first
    | (simp; omega)
    | (simp [BitVec.toNat_ofInt]; omega)
theorem r_cvt8 {x : Operand} {s t : TypeId} {k' : IntKind} {td : TypeDesc} {i : Int} (hs : P.underlying s = some td) (ht : P.underlying t = some (.int .u8)) (hx : ev env x = some (.int k' i)) :
    Runs P n env w ⟨d, .convert s t x, ty, pos, af, g⟩ (.int .u8 ((y8 i).toNat : Int)) w := fun a ha => by
  simp [execOp, ha.ev hx, convert, run_underlying hs, run_underlying ht, Conv.intToInt, y8_val]
end
section
variable {P : Program} {n : Nat} {Q : Post} {env : Env} {w : World} {c : Code} {ops : Array Oper} {l rest : List Oper} {ty : TypeId} {pos : String} {af : Array Edge} {r : List (Oper × Nat)}
-- Steps that often come together
theorem wl_sq (h : WC P n c Q env w) : WL P n ops [] (sq P n c Q) env w := wl_nil (sq_n h)
theorem wc_sr {id : Nat} {y : Code} (h : WL P n l.toArray l (sq P n y Q) env w) : WC P n (.seq (.region id l.toArray false) y) Q env w := wc_seq (wc_region h)
theorem wmv {d : Nat} {x : Operand} {v : Value} (hd : Nat.blt d n = true) (hx : ev env x = some v) (h : WL P n ops rest Q ((d, v) :: env) w) : WL P n ops (⟨some d, .move x, ty, pos, af, none⟩ :: rest) Q env w := wv hd (r_move hx) h
theorem was {d : Nat} {x : Operand} {v : Value} (hd : Nat.blt d n = true) (hx : ev env x = some v) (h : WL P n ops rest Q ((d, v) :: env) w) : WL P n ops (⟨some d, .assign x, ty, pos, af, none⟩ :: rest) Q env w := wv hd (r_assign hx) h
theorem omv {d : Nat} {x : Operand} {v : Value} (hd : Nat.blt d n = true) (hx : ev env x = some v) (h : WO P n ops Q r ((d, v) :: env) w) : WO P n ops Q ((⟨some d, .move x, ty, pos, af, none⟩, 0) :: r) env w := ov hd (fun _ _ => r_move hx) h
theorem o_nilM {w0 : Base} {m : List As} {rs : List Rd} (hM : St w0 m rs w) (h : ∀ w1, St w0 m rs w1 → Q .normal env w1) : WO P n ops Q [] env w := o_nil fun w1 h1 => h w1 (hM.call h1)
end
end Go.Proofs.YtjbonmmmcnpjiaaGreatDoor
