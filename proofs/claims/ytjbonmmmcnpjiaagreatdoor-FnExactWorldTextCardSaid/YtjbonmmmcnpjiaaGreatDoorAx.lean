/- What is counted in data of this program. No condition. -/
import Derived.Test.YtjbonmmmcnpjiaaGreatDoorTy3
import Derived.Test.YtjbonmmmcnpjiaaGreatDoorMl
namespace Go.Proofs.YtjbonmmmcnpjiaaGreatDoor
def smDPart (x : DPart) : Prop := smI x.kind ∧ smI x.n ∧ (smL smI) x.signs
def wfDPart (x : DPart) : Prop := wfI x.kind ∧ wfI x.n ∧ (wfL wfI) x.signs
def szDPart (x : DPart) : Nat := (lenL szI) x.signs
theorem smz_DPart (x : DPart) (h : szDPart x ≤ 1099511627776) : smDPart x := by unfold szDPart at h; exact ⟨smz_I _ (by first | omega | exact Nat.zero_le _), smz_I _ (by first | omega | exact Nat.zero_le _), (smz_L smz_I) _ (by first | omega | exact Nat.zero_le _)⟩
def smDEntry (x : DEntry) : Prop := smI x.client ∧ smI x.seq ∧ (smL smDPart) x.o
def wfDEntry (x : DEntry) : Prop := wfI x.client ∧ wfI x.seq ∧ (wfL wfDPart) x.o
def szDEntry (x : DEntry) : Nat := (lenL szDPart) x.o
theorem smz_DEntry (x : DEntry) (h : szDEntry x ≤ 1099511627776) : smDEntry x := by unfold szDEntry at h; exact ⟨smz_I _ (by first | omega | exact Nat.zero_le _), smz_I _ (by first | omega | exact Nat.zero_le _), (smz_L smz_DPart) _ (by first | omega | exact Nat.zero_le _)⟩
def smDSeen (x : DSeen) : Prop := smI x.client ∧ smI x.seq ∧ smI x.rev
def wfDSeen (x : DSeen) : Prop := wfI x.client ∧ wfI x.seq ∧ wfI x.rev
def szDSeen (x : DSeen) : Nat := 0
theorem smz_DSeen (x : DSeen) (h : szDSeen x ≤ 1099511627776) : smDSeen x := by unfold szDSeen at h; exact ⟨smz_I _ (by first | omega | exact Nat.zero_le _), smz_I _ (by first | omega | exact Nat.zero_le _), smz_I _ (by first | omega | exact Nat.zero_le _)⟩
def smDDoc (x : DDoc) : Prop := smT x.name ∧ smI x.from_ ∧ (smL smI) x.text ∧ (smL smDEntry) x.list ∧ (smL smDSeen) x.seen
def wfDDoc (x : DDoc) : Prop := wfT x.name ∧ wfI x.from_ ∧ (wfL wfI) x.text ∧ (wfL wfDEntry) x.list ∧ (wfL wfDSeen) x.seen
def szDDoc (x : DDoc) : Nat := szT x.name + (lenL szI) x.text + (lenL szDEntry) x.list + (lenL szDSeen) x.seen
theorem smz_DDoc (x : DDoc) (h : szDDoc x ≤ 1099511627776) : smDDoc x := by unfold szDDoc at h; exact ⟨smz_T _ (by first | omega | exact Nat.zero_le _), smz_I _ (by first | omega | exact Nat.zero_le _), (smz_L smz_I) _ (by first | omega | exact Nat.zero_le _), (smz_L smz_DEntry) _ (by first | omega | exact Nat.zero_le _), (smz_L smz_DSeen) _ (by first | omega | exact Nat.zero_le _)⟩
def smDRing (x : DRing) : Prop := smI x.cap ∧ smI x.next ∧ smB x.out ∧ (smL smDEntry) x.list
def wfDRing (x : DRing) : Prop := wfI x.cap ∧ wfI x.next ∧ wfB x.out ∧ (wfL wfDEntry) x.list
def szDRing (x : DRing) : Nat := (lenL szDEntry) x.list
theorem smz_DRing (x : DRing) (h : szDRing x ≤ 1099511627776) : smDRing x := by unfold szDRing at h; exact ⟨smz_I _ (by first | omega | exact Nat.zero_le _), smz_I _ (by first | omega | exact Nat.zero_le _), smz_B _ (by first | omega | exact Nat.zero_le _), (smz_L smz_DEntry) _ (by first | omega | exact Nat.zero_le _)⟩
def smDSub (x : DSub) : Prop := smI x.id ∧ smT x.doc ∧ smDRing x.r
def wfDSub (x : DSub) : Prop := wfI x.id ∧ wfT x.doc ∧ wfDRing x.r
def szDSub (x : DSub) : Nat := szT x.doc + szDRing x.r
theorem smz_DSub (x : DSub) (h : szDSub x ≤ 1099511627776) : smDSub x := by unfold szDSub at h; exact ⟨smz_I _ (by first | omega | exact Nat.zero_le _), smz_T _ (by first | omega | exact Nat.zero_le _), smz_DRing _ (by first | omega | exact Nat.zero_le _)⟩
def smDHub (x : DHub) : Prop := smB x.shut ∧ (smL smDDoc) x.docs ∧ (smL smDSub) x.subs ∧ smI x.last
def wfDHub (x : DHub) : Prop := wfB x.shut ∧ (wfL wfDDoc) x.docs ∧ (wfL wfDSub) x.subs ∧ wfI x.last
def szDHub (x : DHub) : Nat := (lenL szDDoc) x.docs + (lenL szDSub) x.subs
theorem smz_DHub (x : DHub) (h : szDHub x ≤ 1099511627776) : smDHub x := by unfold szDHub at h; exact ⟨smz_B _ (by first | omega | exact Nat.zero_le _), (smz_L smz_DDoc) _ (by first | omega | exact Nat.zero_le _), (smz_L smz_DSub) _ (by first | omega | exact Nat.zero_le _), smz_I _ (by first | omega | exact Nat.zero_le _)⟩
def smDQueue (x : DQueue) : Prop := smT x.doc ∧ (smL smI) x.list
def wfDQueue (x : DQueue) : Prop := wfT x.doc ∧ (wfL wfI) x.list
def szDQueue (x : DQueue) : Nat := szT x.doc + (lenL szI) x.list
theorem smz_DQueue (x : DQueue) (h : szDQueue x ≤ 1099511627776) : smDQueue x := by unfold szDQueue at h; exact ⟨smz_T _ (by first | omega | exact Nat.zero_le _), (smz_L smz_I) _ (by first | omega | exact Nat.zero_le _)⟩
def smDCall (x : DCall) : Prop := smI x.kind ∧ smT x.doc ∧ smI x.client ∧ smI x.seq ∧ smI x.n ∧ (smL smDPart) x.o ∧ (smL smI) x.text
def wfDCall (x : DCall) : Prop := wfI x.kind ∧ wfT x.doc ∧ wfI x.client ∧ wfI x.seq ∧ wfI x.n ∧ (wfL wfDPart) x.o ∧ (wfL wfI) x.text
def szDCall (x : DCall) : Nat := szT x.doc + (lenL szDPart) x.o + (lenL szI) x.text
theorem smz_DCall (x : DCall) (h : szDCall x ≤ 1099511627776) : smDCall x := by unfold szDCall at h; exact ⟨smz_I _ (by first | omega | exact Nat.zero_le _), smz_T _ (by first | omega | exact Nat.zero_le _), smz_I _ (by first | omega | exact Nat.zero_le _), smz_I _ (by first | omega | exact Nat.zero_le _), smz_I _ (by first | omega | exact Nat.zero_le _), (smz_L smz_DPart) _ (by first | omega | exact Nat.zero_le _), (smz_L smz_I) _ (by first | omega | exact Nat.zero_le _)⟩
def smDAnswer (x : DAnswer) : Prop := smI x.code ∧ smI x.rev ∧ (smL smI) x.text ∧ (smL smDEntry) x.list
def wfDAnswer (x : DAnswer) : Prop := wfI x.code ∧ wfI x.rev ∧ (wfL wfI) x.text ∧ (wfL wfDEntry) x.list
def szDAnswer (x : DAnswer) : Nat := (lenL szI) x.text + (lenL szDEntry) x.list
theorem smz_DAnswer (x : DAnswer) (h : szDAnswer x ≤ 1099511627776) : smDAnswer x := by unfold szDAnswer at h; exact ⟨smz_I _ (by first | omega | exact Nat.zero_le _), smz_I _ (by first | omega | exact Nat.zero_le _), (smz_L smz_I) _ (by first | omega | exact Nat.zero_le _), (smz_L smz_DEntry) _ (by first | omega | exact Nat.zero_le _)⟩
def smDTask (x : DTask) : Prop := smDCall x.c ∧ smI x.pc ∧ smI x.inv ∧ smI x.lin ∧ smI x.res ∧ smDAnswer x.a
def wfDTask (x : DTask) : Prop := wfDCall x.c ∧ wfI x.pc ∧ wfI x.inv ∧ wfI x.lin ∧ wfI x.res ∧ wfDAnswer x.a
def szDTask (x : DTask) : Nat := szDCall x.c + szDAnswer x.a
theorem smz_DTask (x : DTask) (h : szDTask x ≤ 1099511627776) : smDTask x := by unfold szDTask at h; exact ⟨smz_DCall _ (by first | omega | exact Nat.zero_le _), smz_I _ (by first | omega | exact Nat.zero_le _), smz_I _ (by first | omega | exact Nat.zero_le _), smz_I _ (by first | omega | exact Nat.zero_le _), smz_I _ (by first | omega | exact Nat.zero_le _), smz_DAnswer _ (by first | omega | exact Nat.zero_le _)⟩
def smDWorld (x : DWorld) : Prop := smDHub x.h ∧ (smL smI) x.locks ∧ (smL smDQueue) x.queues ∧ (smL smDTask) x.tasks ∧ smI x.step
def wfDWorld (x : DWorld) : Prop := wfDHub x.h ∧ (wfL wfI) x.locks ∧ (wfL wfDQueue) x.queues ∧ (wfL wfDTask) x.tasks ∧ wfI x.step
def szDWorld (x : DWorld) : Nat := szDHub x.h + (lenL szI) x.locks + (lenL szDQueue) x.queues + (lenL szDTask) x.tasks
theorem smz_DWorld (x : DWorld) (h : szDWorld x ≤ 1099511627776) : smDWorld x := by unfold szDWorld at h; exact ⟨smz_DHub _ (by first | omega | exact Nat.zero_le _), (smz_L smz_I) _ (by first | omega | exact Nat.zero_le _), (smz_L smz_DQueue) _ (by first | omega | exact Nat.zero_le _), (smz_L smz_DTask) _ (by first | omega | exact Nat.zero_le _), smz_I _ (by first | omega | exact Nat.zero_le _)⟩
end Go.Proofs.YtjbonmmmcnpjiaaGreatDoor
