/- The second layer, part T: bytes read as a text; shifts to the left. No condition. -/
import Derived.Test.YtjbonmmmcnpjiaaGreatDoorNz
import Derived.Test.YtjbonmmmcnpjiaaGreatDoorTy3
import Derived.Laws.BytesString
namespace Go.Proofs.YtjbonmmmcnpjiaaGreatDoor
open Go.RowKit

theorem push_all : ∀ (L : List UInt8) (r : ByteArray), (L.map fun y => ((y.toNat : Nat) : Int)).foldl (fun r n => r.push (UInt8.ofNat n.toNat)) r = ⟨r.data ++ L.toArray⟩
  | [], r => by simp
  | x :: L, r => by
    rw [List.map_cons, List.foldl_cons, push_all L]
    have e : UInt8.ofNat ((x.toNat : Int)).toNat = x := by simp
    rw [e]
    cases r with
    | mk a =>
      show ByteArray.mk (a.push x ++ L.toArray) = ByteArray.mk (a ++ (x :: L).toArray)
      congr 1
      apply Array.ext'
      simp
theorem rd_bytes {S : Bs} {w : World} : ∀ (L : List UInt8) (xs : List Value), rdAll S w (L.flatMap fY) xs → xs = L.map fun y => Value.int .u8 (y.toNat : Int)
  | [], xs, h => h
  | y :: L, xs, h => by
    obtain ⟨v, r, e, h1, h2⟩ := h
    have := rd_bytes L r h2
    rw [e, this, h1]; rfl

section
variable {P : Program} {n : Nat} {env : Env} {w : World} {d : Option Tmp} {ty : TypeId} {pos : String} {af : Array Edge} {g : Option (Nat × Bool)}
theorem r_b2s {x : Operand} {s t e : TypeId} {v : Value} {L : List UInt8} {S : Bs} (hs : P.underlying s = some (.slice e)) (ht : P.underlying t = some .string) (he : P.underlying e = some (.int .u8))
    (hx : ev env x = some v) (h : (cSl 1 fY L).rd S w v) : Runs P n env w ⟨d, .convert s t x, ty, pos, af, g⟩ (.string ⟨L.toArray⟩) w := fun a ha => by
  obtain ⟨a0, cap, rfl, h1, h2, h3⟩ := h
  have key : (Conv.bytesToString (.slice a0 L.length cap)).run P w = .ok (.string ⟨L.toArray⟩) w := by
    by_cases hL : L = []
    · subst hL
      cases a0 with
      | none => rfl
      | some a0 =>
        have h0 := run_loadCells_list (P := P) (w := w) a0 [] (fun j u hj => by simp at hj)
        have := run_bytesToString (P := P) w a0 0 cap [] (by simpa using h0)
        simp only [List.foldl_nil] at this
        exact this
    · obtain ⟨b, off, xs, rfl, hS, hl, hc, hr⟩ := h3 hL
      have hxs := rd_bytes L xs hr
      have h0 := run_loadCells_list (P := P) (w := w) ⟨b, off, none⟩ xs (fun j u hj => by rw [Addr.add_lit]; exact hc j u hj)
      have hlen : xs.length = L.length := by rw [hxs, List.length_map]
      rw [hlen] at h0
      have h4 := run_bytesToString (P := P) w ⟨b, off, none⟩ L.length cap (L.map fun y => ((y.toNat : Nat) : Int)) (by rw [h0, hxs, List.map_map]; rfl)
      rw [h4, push_all]
      congr 2
      simp
  simp [execOp, ha.ev hx, convert, run_underlying hs, run_underlying ht, run_underlying he, key]
end
end Go.Proofs.YtjbonmmmcnpjiaaGreatDoor
