/- What is counted in data of this program. No condition. -/
import Derived.Test.YtlgmikaemfbmaaaGreatTy3
import Derived.Test.YtlgmikaemfbmaaaGreatMl
namespace Go.Proofs.YtlgmikaemfbmaaaGreat
def smDPart (x : DPart) : Prop := smI x.kind ∧ smI x.n ∧ (smL smI) x.signs
def szDPart (x : DPart) : Nat := (lenL szI) x.signs
theorem smz_DPart (x : DPart) (h : szDPart x ≤ 1099511627776) : smDPart x := by unfold szDPart at h; exact ⟨smz_I _ (by first | omega | exact Nat.zero_le _), smz_I _ (by first | omega | exact Nat.zero_le _), (smz_L smz_I) _ (by first | omega | exact Nat.zero_le _)⟩
def smDEntry (x : DEntry) : Prop := smI x.client ∧ smI x.seq ∧ (smL smDPart) x.o
def smDSeen (x : DSeen) : Prop := smI x.client ∧ smI x.seq ∧ smI x.rev
def smDDoc (x : DDoc) : Prop := smT x.name ∧ smI x.from_ ∧ (smL smI) x.text ∧ (smL smDEntry) x.list ∧ (smL smDSeen) x.seen
end Go.Proofs.YtlgmikaemfbmaaaGreat
