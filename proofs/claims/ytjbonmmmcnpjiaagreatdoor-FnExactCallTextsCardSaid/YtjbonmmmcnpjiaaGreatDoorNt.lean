/- The second layer, part T: bytes read as a text; shifts to the left. No condition. -/
import Derived.Test.YtjbonmmmcnpjiaaGreatDoorNs
import Derived.Test.YtjbonmmmcnpjiaaGreatDoorTy3
import Derived.Laws.BytesString
import Derived.Laws.IdiomStrings
namespace Go.Proofs.YtjbonmmmcnpjiaaGreatDoor
open Go.RowKit

def bShl (i j : Int) : Int := IntKind.i64.wrap (i * 2 ^ (min j.toNat 64))
theorem push_all : ∀ (L : List UInt8) (r : ByteArray), (L.map fun y => ((y.toNat : Nat) : Int)).foldl (fun r n => r.push (UInt8.ofNat n.toNat)) r = ⟨r.data ++ L.toArray⟩
  | [], r => by simp
  | x :: L, r => by
    rw [List.map_cons, List.foldl_cons, push_all L]
    have e : UInt8.ofNat ((x.toNat : Int)).toNat = x := by simp
    rw [e]
    cases r with
    | mk a =>
      show ByteArray.mk (a.push x ++ L.toArray) = ByteArray.mk (a ++ (x :: L).toArray)
      congr 1
      apply Array.ext'
      simp
theorem rd_bytes {S : Bs} {w : World} : ∀ (L : List UInt8) (xs : List Value), rdAll S w (L.flatMap fY) xs → xs = L.map fun y => Value.int .u8 (y.toNat : Int)
  | [], xs, h => h
  | y :: L, xs, h => by
    obtain ⟨v, r, e, h1, h2⟩ := h
    have := rd_bytes L r h2
    rw [e, this, h1]; rfl

section
variable {P : Program} {n : Nat} {env : Env} {w : World} {d : Option Tmp} {ty : TypeId} {pos : String} {af : Array Edge} {g : Option (Nat × Bool)}
theorem r_shl {x y : Operand} {t u : TypeId} {k : IntKind} {i j : Int} (hx : ev env x = some (.int .i64 i)) (hy : ev env y = some (.int k j)) (hj : 0 ≤ j) :
    Runs P n env w ⟨d, .binOp .shl t x y u, ty, pos, af, g⟩ (.int .i64 (bShl i j)) w := fun a ha => by
  simp [execOp, ha.ev hx, ha.ev hy, eqGuard, binOp, Op.shift, bShl, IntKind.bits, show ¬ j < 0 by omega]
theorem r_b2s {x : Operand} {s t e : TypeId} {v : Value} {L : List UInt8} {S : Bs} (hs : P.underlying s = some (.slice e)) (ht : P.underlying t = some .string) (he : P.underlying e = some (.int .u8))
    (hx : ev env x = some v) (h : (cSl 1 fY L).rd S w v) : Runs P n env w ⟨d, .convert s t x, ty, pos, af, g⟩ (.string ⟨L.toArray⟩) w := fun a ha => by
  obtain ⟨a0, cap, rfl, h1, h2, h3⟩ := h
  have key : (Conv.bytesToString (.slice a0 L.length cap)).run P w = .ok (.string ⟨L.toArray⟩) w := by
    by_cases hL : L = []
    · subst hL
      cases a0 with
      | none => rfl
      | some a0 =>
        have h0 := run_loadCells_list (P := P) (w := w) a0 [] (fun j u hj => by simp at hj)
        have := run_bytesToString (P := P) w a0 0 cap [] (by simpa using h0)
        simp only [List.foldl_nil] at this
        exact this
    · obtain ⟨b, off, xs, rfl, hS, hl, hc, hr⟩ := h3 hL
      have hxs := rd_bytes L xs hr
      have h0 := run_loadCells_list (P := P) (w := w) ⟨b, off, none⟩ xs (fun j u hj => by rw [Addr.add_lit]; exact hc j u hj)
      have hlen : xs.length = L.length := by rw [hxs, List.length_map]
      rw [hlen] at h0
      have h4 := run_bytesToString (P := P) w ⟨b, off, none⟩ L.length cap (L.map fun y => ((y.toNat : Nat) : Int)) (by rw [h0, hxs, List.map_map]; rfl)
      rw [h4, push_all]
      congr 2
      simp
  simp [execOp, ha.ev hx, convert, run_underlying hs, run_underlying ht, run_underlying he, key]
end

section
variable {P : Program} {n : Nat} {env : Env} {w : World} {w0 : Base} {m : List As} {rs : List Rd} {ty : TypeId} {pos : String} {af : Array Edge}
/-- A new row with a mark behind it. -/
theorem St.allocRowH {k : Nat} (h : St w0 m rs w) {q cap : Nat} (xs sp : List Value) (cur : Array Value) (e : TypeId) (hd : Nat × Nat) (hw : Wr hd cur.size) (hcur : cur.toList = xs ++ sp) (hl : xs.length = q * k) (hn : q ≤ cap) (hc : cap ≤ maxLen) (hs : cur.size = cap * k) :
    St w0 (oRow k (Sv.v ⟨some ⟨w.heap.size, 0, none⟩, q, cap⟩) q xs :: m) rs (w.alloc (.cells cur e hd)) :=
  St.upd (l := []) (l' := [oRow k (Sv.v ⟨some ⟨w.heap.size, 0, none⟩, q, cap⟩) q xs]) h fun F hF => ⟨fun b => b.1 = w.heap.size, ⟨fun b hb => by rw [show b.1 = w.heap.size from hb]; simp, fun b => b.1 = w.heap.size, fun _ => False, ⟨fun b hb => by rw [show b.1 = w.heap.size from hb]; simp, hl, .inr ⟨_, 0, cap, _, e, hd, rfl, fun _ _ => rfl, ⟨heap_alloc_new w _, hw⟩, hn, hc, by omega, by rw [hcur]; simp [← hl]⟩⟩, (fun _ h => h.elim), (fun _ _ h => h), (fun _ h => h), fun _ h => h.elim⟩, (Rel.alloc w _).x F, fun b hb => .inr (Nat.le_of_eq (Eq.symm hb))⟩
theorem zipC_map {T : Type} (f : T → Ce) (g : T → Value) (h : ∀ x w, (oC (f x) (g x)).ok (fun _ => False) w) (w : World) : ∀ l : List T, Z w [] (zipC (l.flatMap fun x => [f x]) (l.map g))
  | [] => zN
  | x :: l => by
    rw [List.flatMap_cons, List.map_cons]
    exact zP (h x) (zipC_map f g h w l)
/-- The bytes of a text, as a new row. -/
theorem x_s2b {K : Value → World → Prop} {d : Nat} {x : Operand} {s t e : TypeId} {v : ByteArray} (hs : P.underlying s = some .string) (ht : P.underlying t = some (.slice e)) (he : P.underlying e = some (.int .u8)) (hx : ev env x = some (.string v)) (hv : v.size ≤ 1099511627776) (hM : St w0 m rs w)
    (h : ∀ (s' : Sv) w', Rel w w' → St w0 (oC (cSl 1 fY v.data.toList) s'.v :: m) rs w' → K s'.v w') : Ex P n env w ⟨some d, .convert s t x, ty, pos, af, none⟩ K := by
  have hr := run_bytes_of_string (P := P) w s t e v hs ht he
  have hge := grownCap_ge w v.size 0 e
  have hc := grownCap_le_maxLen w v.size 0 e (by simp only [maxLen]; omega)
  have hsz : (bytesRow v (grownCap w v.size 0 e)).size = grownCap w v.size 0 e * 1 := by
    unfold bytesRow
    rw [Array.size_append, Array.size_map, Array.size_replicate, show v.data.size = v.size from rfl]
    omega
  refine exI (v := Sv.v ⟨some ⟨w.heap.size, 0, none⟩, v.size, grownCap w v.size 0 e⟩) (w' := w.drew.alloc (.cells (bytesRow v (grownCap w v.size 0 e)) e ((bytesRow v (grownCap w v.size 0 e)).size, (bytesRow v (grownCap w v.size 0 e)).size + 1))) (fun a ha => by simp only [execOp, ha.ev hx, Sem.run_bind, hr, Result.andThen_ok, Sem.run_pure]; rfl) (h _ _ ((Rel.refl w).drew.trans (Rel.alloc _ _)) ?_)
  have h1 := (hM.drew).allocRowH (k := 1) (q := v.size) (cap := grownCap w v.size 0 e) (v.data.toList.map fun y => Value.int .u8 (y.toNat : Int)) (List.replicate (grownCap w v.size 0 e - v.size) (.int .u8 0)) (bytesRow v (grownCap w v.size 0 e)) e ((bytesRow v (grownCap w v.size 0 e)).size, (bytesRow v (grownCap w v.size 0 e)).size + 1)
    (fun j hj hk => by simp only at hk; omega) (by unfold bytesRow; simp) (by rw [List.length_map, Array.length_toList, Nat.mul_one]; rfl) hge hc hsz
  have hlen : v.data.toList.length = v.size := by rw [Array.length_toList]; rfl
  refine St.rerow (xs := v.data.toList.map fun y => Value.int .u8 (y.toNat : Int)) (by rw [List.length_map]; exact (flatMap_len (k := 1) (fun _ => rfl) _).trans (Nat.mul_one _)) ?_
  rw [hlen]
  exact (St.iso (l := []) (l' := zipC (v.data.toList.flatMap fY) (v.data.toList.map fun y : UInt8 => Value.int .u8 (y.toNat : Int))) (m := oRow 1 _ v.size _ :: m) h1 (zipC_map (fun y : UInt8 => cY y) (fun y : UInt8 => Value.int .u8 (y.toNat : Int)) (fun y _ => ⟨rfl, fun _ h => h.elim⟩) _ v.data.toList)).perm List.perm_middle
end
end Go.Proofs.YtjbonmmmcnpjiaaGreatDoor
