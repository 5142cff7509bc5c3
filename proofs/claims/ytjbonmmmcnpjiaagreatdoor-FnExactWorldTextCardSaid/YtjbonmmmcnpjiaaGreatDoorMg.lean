/- Normal forms by gaps: what is put and how much is dropped between two signs that are kept. No condition. -/
import Derived.Test.YtjbonmmmcnpjiaaGreatDoorMn
namespace Go.Proofs.YtjbonmmmcnpjiaaGreatDoor

structure Gs where
  done : List (List Int × Nat)
  p : List Int
  d : Nat
def g0 : Gs := ⟨[], [], 0⟩
-- From a builder to gaps
-- From gaps to a builder
-- Signs that are kept, and what comes of a text
def kept : List DPart → List Int → List Int
  | [], _ => []
  | q :: o, t => if q.kind = 1 then t.take q.n.toNat ++ kept o (t.drop q.n.toNat) else kept o (t.drop q.n.toNat)
def appl : List DPart → List Int → List Int
  | [], _ => []
  | q :: o, t => if q.kind = 1 then t.take q.n.toNat ++ appl o (t.drop q.n.toNat) else if q.kind = 2 then q.signs ++ appl o t else appl o (t.drop q.n.toNat)

def kinds (o : List DPart) : Prop := ∀ q ∈ o, (q.kind = 1 ∨ q.kind = 2 ∨ q.kind = 3) ∧ 0 ≤ q.n ∧ (q.kind = 2 → q.n = 0)
theorem okParts_kinds {o : List DPart} (h : okParts o = true) : kinds o := fun q hq => by
  rcases okPart_cases (okParts_mem h hq) with ⟨h1, h2, h3, h4⟩ | ⟨h1, h2, h3, h4⟩ | ⟨h1, h2, h3, h4⟩ <;> simp [h1, h2]
end Go.Proofs.YtjbonmmmcnpjiaaGreatDoor
