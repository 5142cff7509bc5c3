/- What is counted in data of this program. No condition. -/
import Derived.Test.YtjbonmmmcnpjiaaGreatDoorTy3
import Derived.Test.YtjbonmmmcnpjiaaGreatDoorMl
namespace Go.Proofs.YtjbonmmmcnpjiaaGreatDoor
def smDPart (x : DPart) : Prop := smI x.kind ∧ smI x.n ∧ (smL smI) x.signs
def wfDPart (x : DPart) : Prop := wfI x.kind ∧ wfI x.n ∧ (wfL wfI) x.signs
def szDPart (x : DPart) : Nat := (lenL szI) x.signs
def cnDPart (x : DPart) : Nat := cnI x.kind + cnI x.n + (sumL cnI) x.signs
def cvDPart (x : DPart) : Nat := (sumL cnI) x.signs
theorem smz_DPart (x : DPart) (h : szDPart x ≤ 1099511627776) : smDPart x := by unfold szDPart at h; exact ⟨smz_I _ (by first | omega | exact Nat.zero_le _), smz_I _ (by first | omega | exact Nat.zero_le _), (smz_L smz_I) _ (by first | omega | exact Nat.zero_le _)⟩
theorem cnw_DPart (x : DPart) : cnDPart x ≤ 2 + 64 * szDPart x := by
  have h2 := (cnz_S cnz_I) x.signs
  unfold cnDPart szDPart; (try simp only [cnI, cnB, cnT, cnY, szI, szB, szY] at *); omega
theorem cnz_DPart (x : DPart) : cnDPart x ≤ 64 * (1 + szDPart x) := by have := cnw_DPart x; omega
theorem cvw_DPart (x : DPart) : cvDPart x ≤ 64 * szDPart x := by
  have h0 := (cnz_S cnz_I) x.signs
  unfold cvDPart szDPart
  try simp only [szI, szB, szY] at *
  omega
theorem cvz_DPart (x : DPart) : cvDPart x ≤ 64 * (1 + szDPart x) := by have := cvw_DPart x; omega
noncomputable def mkDPart (x : DPart) (k : Int) : DPart := ⟨mkI x.kind k, mkI x.n (k + 1), (mkL cnI mkI) x.signs (k + 1 + 1)⟩
noncomputable def mvDPart (x : DPart) (k : Int) : DPart := ⟨x.kind, x.n, (mkL cnI mkI) x.signs k⟩
def smDEntry (x : DEntry) : Prop := smI x.client ∧ smI x.seq ∧ (smL smDPart) x.o
def wfDEntry (x : DEntry) : Prop := wfI x.client ∧ wfI x.seq ∧ (wfL wfDPart) x.o
def szDEntry (x : DEntry) : Nat := (lenL szDPart) x.o
def cnDEntry (x : DEntry) : Nat := cnI x.client + cnI x.seq + (sumL cnDPart) x.o
def cvDEntry (x : DEntry) : Nat := (sumL cnDPart) x.o
theorem smz_DEntry (x : DEntry) (h : szDEntry x ≤ 1099511627776) : smDEntry x := by unfold szDEntry at h; exact ⟨smz_I _ (by first | omega | exact Nat.zero_le _), smz_I _ (by first | omega | exact Nat.zero_le _), (smz_L smz_DPart) _ (by first | omega | exact Nat.zero_le _)⟩
theorem cnw_DEntry (x : DEntry) : cnDEntry x ≤ 2 + 64 * szDEntry x := by
  have h2 := (cnz_S cnz_DPart) x.o
  unfold cnDEntry szDEntry; (try simp only [cnI, cnB, cnT, cnY, szI, szB, szY] at *); omega
theorem cnz_DEntry (x : DEntry) : cnDEntry x ≤ 64 * (1 + szDEntry x) := by have := cnw_DEntry x; omega
theorem cvw_DEntry (x : DEntry) : cvDEntry x ≤ 64 * szDEntry x := by
  have h0 := (cnz_S cnz_DPart) x.o
  unfold cvDEntry szDEntry
  try simp only [szI, szB, szY] at *
  omega
theorem cvz_DEntry (x : DEntry) : cvDEntry x ≤ 64 * (1 + szDEntry x) := by have := cvw_DEntry x; omega
noncomputable def mkDEntry (x : DEntry) (k : Int) : DEntry := ⟨mkI x.client k, mkI x.seq (k + 1), (mkL cnDPart mkDPart) x.o (k + 1 + 1)⟩
noncomputable def mvDEntry (x : DEntry) (k : Int) : DEntry := ⟨x.client, x.seq, (mkL cnDPart mkDPart) x.o k⟩
def smDSeen (x : DSeen) : Prop := smI x.client ∧ smI x.seq ∧ smI x.rev
def wfDSeen (x : DSeen) : Prop := wfI x.client ∧ wfI x.seq ∧ wfI x.rev
def szDSeen (x : DSeen) : Nat := 0
def cnDSeen (x : DSeen) : Nat := cnI x.client + cnI x.seq + cnI x.rev
def cvDSeen (x : DSeen) : Nat := 0
theorem smz_DSeen (x : DSeen) (h : szDSeen x ≤ 1099511627776) : smDSeen x := by unfold szDSeen at h; exact ⟨smz_I _ (by first | omega | exact Nat.zero_le _), smz_I _ (by first | omega | exact Nat.zero_le _), smz_I _ (by first | omega | exact Nat.zero_le _)⟩
theorem cnw_DSeen (x : DSeen) : cnDSeen x ≤ 3 + 64 * szDSeen x := by
  unfold cnDSeen szDSeen; (try simp only [cnI, cnB, cnT, cnY, szI, szB, szY] at *); omega
theorem cnz_DSeen (x : DSeen) : cnDSeen x ≤ 64 * (1 + szDSeen x) := by have := cnw_DSeen x; omega
theorem cvw_DSeen (x : DSeen) : cvDSeen x ≤ 64 * szDSeen x := by
  unfold cvDSeen szDSeen
  try simp only [szI, szB, szY] at *
  omega
theorem cvz_DSeen (x : DSeen) : cvDSeen x ≤ 64 * (1 + szDSeen x) := by have := cvw_DSeen x; omega
noncomputable def mkDSeen (x : DSeen) (k : Int) : DSeen := ⟨mkI x.client k, mkI x.seq (k + 1), mkI x.rev (k + 1 + 1)⟩
noncomputable def mvDSeen (x : DSeen) (k : Int) : DSeen := ⟨x.client, x.seq, x.rev⟩
def smDDoc (x : DDoc) : Prop := smT x.name ∧ smI x.from_ ∧ (smL smI) x.text ∧ (smL smDEntry) x.list ∧ (smL smDSeen) x.seen
def wfDDoc (x : DDoc) : Prop := wfT x.name ∧ wfI x.from_ ∧ (wfL wfI) x.text ∧ (wfL wfDEntry) x.list ∧ (wfL wfDSeen) x.seen
def szDDoc (x : DDoc) : Nat := szT x.name + (lenL szI) x.text + (lenL szDEntry) x.list + (lenL szDSeen) x.seen
def cnDDoc (x : DDoc) : Nat := cnT x.name + cnI x.from_ + (sumL cnI) x.text + (sumL cnDEntry) x.list + (sumL cnDSeen) x.seen
def cvDDoc (x : DDoc) : Nat := (sumL cnI) x.text + (sumL cnDEntry) x.list + (sumL cnDSeen) x.seen
theorem smz_DDoc (x : DDoc) (h : szDDoc x ≤ 1099511627776) : smDDoc x := by unfold szDDoc at h; exact ⟨smz_T _ (by first | omega | exact Nat.zero_le _), smz_I _ (by first | omega | exact Nat.zero_le _), (smz_L smz_I) _ (by first | omega | exact Nat.zero_le _), (smz_L smz_DEntry) _ (by first | omega | exact Nat.zero_le _), (smz_L smz_DSeen) _ (by first | omega | exact Nat.zero_le _)⟩
theorem cnw_DDoc (x : DDoc) : cnDDoc x ≤ 2 + 64 * szDDoc x := by
  have h2 := (cnz_S cnz_I) x.text
  have h3 := (cnz_S cnz_DEntry) x.list
  have h4 := (cnz_S cnz_DSeen) x.seen
  unfold cnDDoc szDDoc; (try simp only [cnI, cnB, cnT, cnY, szI, szB, szY] at *); omega
theorem cnz_DDoc (x : DDoc) : cnDDoc x ≤ 64 * (1 + szDDoc x) := by have := cnw_DDoc x; omega
theorem cvw_DDoc (x : DDoc) : cvDDoc x ≤ 64 * szDDoc x := by
  have h0 := (cnz_S cnz_I) x.text
  have h1 := (cnz_S cnz_DEntry) x.list
  have h2 := (cnz_S cnz_DSeen) x.seen
  unfold cvDDoc szDDoc
  try simp only [szI, szB, szY] at *
  omega
theorem cvz_DDoc (x : DDoc) : cvDDoc x ≤ 64 * (1 + szDDoc x) := by have := cvw_DDoc x; omega
noncomputable def mkDDoc (x : DDoc) (k : Int) : DDoc := ⟨mkT x.name k, mkI x.from_ (k + 1), (mkL cnI mkI) x.text (k + 1 + 1), (mkL cnDEntry mkDEntry) x.list (k + 1 + 1 + ((sumL cnI) x.text : Int)), (mkL cnDSeen mkDSeen) x.seen (k + 1 + 1 + ((sumL cnI) x.text : Int) + ((sumL cnDEntry) x.list : Int))⟩
noncomputable def mvDDoc (x : DDoc) (k : Int) : DDoc := ⟨x.name, x.from_, (mkL cnI mkI) x.text k, (mkL cnDEntry mkDEntry) x.list (k + ((sumL cnI) x.text : Int)), (mkL cnDSeen mkDSeen) x.seen (k + ((sumL cnI) x.text : Int) + ((sumL cnDEntry) x.list : Int))⟩
def smDRing (x : DRing) : Prop := smI x.cap ∧ smI x.next ∧ smB x.out ∧ (smL smDEntry) x.list
def wfDRing (x : DRing) : Prop := wfI x.cap ∧ wfI x.next ∧ wfB x.out ∧ (wfL wfDEntry) x.list
def szDRing (x : DRing) : Nat := (lenL szDEntry) x.list
def cnDRing (x : DRing) : Nat := cnI x.cap + cnI x.next + cnB x.out + (sumL cnDEntry) x.list
def cvDRing (x : DRing) : Nat := (sumL cnDEntry) x.list
theorem smz_DRing (x : DRing) (h : szDRing x ≤ 1099511627776) : smDRing x := by unfold szDRing at h; exact ⟨smz_I _ (by first | omega | exact Nat.zero_le _), smz_I _ (by first | omega | exact Nat.zero_le _), smz_B _ (by first | omega | exact Nat.zero_le _), (smz_L smz_DEntry) _ (by first | omega | exact Nat.zero_le _)⟩
theorem cnw_DRing (x : DRing) : cnDRing x ≤ 3 + 64 * szDRing x := by
  have h3 := (cnz_S cnz_DEntry) x.list
  unfold cnDRing szDRing; (try simp only [cnI, cnB, cnT, cnY, szI, szB, szY] at *); omega
theorem cnz_DRing (x : DRing) : cnDRing x ≤ 64 * (1 + szDRing x) := by have := cnw_DRing x; omega
theorem cvw_DRing (x : DRing) : cvDRing x ≤ 64 * szDRing x := by
  have h0 := (cnz_S cnz_DEntry) x.list
  unfold cvDRing szDRing
  try simp only [szI, szB, szY] at *
  omega
theorem cvz_DRing (x : DRing) : cvDRing x ≤ 64 * (1 + szDRing x) := by have := cvw_DRing x; omega
noncomputable def mkDRing (x : DRing) (k : Int) : DRing := ⟨mkI x.cap k, mkI x.next (k + 1), mkB x.out (k + 1 + 1), (mkL cnDEntry mkDEntry) x.list (k + 1 + 1 + 1)⟩
noncomputable def mvDRing (x : DRing) (k : Int) : DRing := ⟨x.cap, x.next, x.out, (mkL cnDEntry mkDEntry) x.list k⟩
def smDSub (x : DSub) : Prop := smI x.id ∧ smT x.doc ∧ smDRing x.r
def wfDSub (x : DSub) : Prop := wfI x.id ∧ wfT x.doc ∧ wfDRing x.r
def szDSub (x : DSub) : Nat := szT x.doc + szDRing x.r
def cnDSub (x : DSub) : Nat := cnI x.id + cnT x.doc + cnDRing x.r
def cvDSub (x : DSub) : Nat := cvDRing x.r
theorem smz_DSub (x : DSub) (h : szDSub x ≤ 1099511627776) : smDSub x := by unfold szDSub at h; exact ⟨smz_I _ (by first | omega | exact Nat.zero_le _), smz_T _ (by first | omega | exact Nat.zero_le _), smz_DRing _ (by first | omega | exact Nat.zero_le _)⟩
theorem cnw_DSub (x : DSub) : cnDSub x ≤ 5 + 64 * szDSub x := by
  have h2 := cnw_DRing x.r
  unfold cnDSub szDSub; (try simp only [cnI, cnB, cnT, cnY, szI, szB, szY] at *); omega
theorem cnz_DSub (x : DSub) : cnDSub x ≤ 64 * (1 + szDSub x) := by have := cnw_DSub x; omega
theorem cvw_DSub (x : DSub) : cvDSub x ≤ 64 * szDSub x := by
  have h0 := cvw_DRing x.r
  unfold cvDSub szDSub
  try simp only [szI, szB, szY] at *
  omega
theorem cvz_DSub (x : DSub) : cvDSub x ≤ 64 * (1 + szDSub x) := by have := cvw_DSub x; omega
noncomputable def mkDSub (x : DSub) (k : Int) : DSub := ⟨mkI x.id k, mkT x.doc (k + 1), mkDRing x.r (k + 1 + 1)⟩
noncomputable def mvDSub (x : DSub) (k : Int) : DSub := ⟨x.id, x.doc, mvDRing x.r k⟩
def smDHub (x : DHub) : Prop := smB x.shut ∧ (smL smDDoc) x.docs ∧ (smL smDSub) x.subs ∧ smI x.last
def wfDHub (x : DHub) : Prop := wfB x.shut ∧ (wfL wfDDoc) x.docs ∧ (wfL wfDSub) x.subs ∧ wfI x.last
def szDHub (x : DHub) : Nat := (lenL szDDoc) x.docs + (lenL szDSub) x.subs
def cnDHub (x : DHub) : Nat := cnB x.shut + (sumL cnDDoc) x.docs + (sumL cnDSub) x.subs + cnI x.last
def cvDHub (x : DHub) : Nat := (sumL cnDDoc) x.docs + (sumL cnDSub) x.subs
theorem smz_DHub (x : DHub) (h : szDHub x ≤ 1099511627776) : smDHub x := by unfold szDHub at h; exact ⟨smz_B _ (by first | omega | exact Nat.zero_le _), (smz_L smz_DDoc) _ (by first | omega | exact Nat.zero_le _), (smz_L smz_DSub) _ (by first | omega | exact Nat.zero_le _), smz_I _ (by first | omega | exact Nat.zero_le _)⟩
theorem cnw_DHub (x : DHub) : cnDHub x ≤ 2 + 64 * szDHub x := by
  have h1 := (cnz_S cnz_DDoc) x.docs
  have h2 := (cnz_S cnz_DSub) x.subs
  unfold cnDHub szDHub; (try simp only [cnI, cnB, cnT, cnY, szI, szB, szY] at *); omega
theorem cnz_DHub (x : DHub) : cnDHub x ≤ 64 * (1 + szDHub x) := by have := cnw_DHub x; omega
theorem cvw_DHub (x : DHub) : cvDHub x ≤ 64 * szDHub x := by
  have h0 := (cnz_S cnz_DDoc) x.docs
  have h1 := (cnz_S cnz_DSub) x.subs
  unfold cvDHub szDHub
  try simp only [szI, szB, szY] at *
  omega
theorem cvz_DHub (x : DHub) : cvDHub x ≤ 64 * (1 + szDHub x) := by have := cvw_DHub x; omega
noncomputable def mkDHub (x : DHub) (k : Int) : DHub := ⟨mkB x.shut k, (mkL cnDDoc mkDDoc) x.docs (k + 1), (mkL cnDSub mkDSub) x.subs (k + 1 + ((sumL cnDDoc) x.docs : Int)), mkI x.last (k + 1 + ((sumL cnDDoc) x.docs : Int) + ((sumL cnDSub) x.subs : Int))⟩
noncomputable def mvDHub (x : DHub) (k : Int) : DHub := ⟨x.shut, (mkL cnDDoc mkDDoc) x.docs k, (mkL cnDSub mkDSub) x.subs (k + ((sumL cnDDoc) x.docs : Int)), x.last⟩
def smDQueue (x : DQueue) : Prop := smT x.doc ∧ (smL smI) x.list
def wfDQueue (x : DQueue) : Prop := wfT x.doc ∧ (wfL wfI) x.list
def szDQueue (x : DQueue) : Nat := szT x.doc + (lenL szI) x.list
def cnDQueue (x : DQueue) : Nat := cnT x.doc + (sumL cnI) x.list
def cvDQueue (x : DQueue) : Nat := (sumL cnI) x.list
theorem smz_DQueue (x : DQueue) (h : szDQueue x ≤ 1099511627776) : smDQueue x := by unfold szDQueue at h; exact ⟨smz_T _ (by first | omega | exact Nat.zero_le _), (smz_L smz_I) _ (by first | omega | exact Nat.zero_le _)⟩
theorem cnw_DQueue (x : DQueue) : cnDQueue x ≤ 1 + 64 * szDQueue x := by
  have h1 := (cnz_S cnz_I) x.list
  unfold cnDQueue szDQueue; (try simp only [cnI, cnB, cnT, cnY, szI, szB, szY] at *); omega
theorem cnz_DQueue (x : DQueue) : cnDQueue x ≤ 64 * (1 + szDQueue x) := by have := cnw_DQueue x; omega
theorem cvw_DQueue (x : DQueue) : cvDQueue x ≤ 64 * szDQueue x := by
  have h0 := (cnz_S cnz_I) x.list
  unfold cvDQueue szDQueue
  try simp only [szI, szB, szY] at *
  omega
theorem cvz_DQueue (x : DQueue) : cvDQueue x ≤ 64 * (1 + szDQueue x) := by have := cvw_DQueue x; omega
noncomputable def mkDQueue (x : DQueue) (k : Int) : DQueue := ⟨mkT x.doc k, (mkL cnI mkI) x.list (k + 1)⟩
noncomputable def mvDQueue (x : DQueue) (k : Int) : DQueue := ⟨x.doc, (mkL cnI mkI) x.list k⟩
def smDCall (x : DCall) : Prop := smI x.kind ∧ smT x.doc ∧ smI x.client ∧ smI x.seq ∧ smI x.n ∧ (smL smDPart) x.o ∧ (smL smI) x.text
def wfDCall (x : DCall) : Prop := wfI x.kind ∧ wfT x.doc ∧ wfI x.client ∧ wfI x.seq ∧ wfI x.n ∧ (wfL wfDPart) x.o ∧ (wfL wfI) x.text
def szDCall (x : DCall) : Nat := szT x.doc + (lenL szDPart) x.o + (lenL szI) x.text
def cnDCall (x : DCall) : Nat := cnI x.kind + cnT x.doc + cnI x.client + cnI x.seq + cnI x.n + (sumL cnDPart) x.o + (sumL cnI) x.text
def cvDCall (x : DCall) : Nat := (sumL cnDPart) x.o + (sumL cnI) x.text
theorem smz_DCall (x : DCall) (h : szDCall x ≤ 1099511627776) : smDCall x := by unfold szDCall at h; exact ⟨smz_I _ (by first | omega | exact Nat.zero_le _), smz_T _ (by first | omega | exact Nat.zero_le _), smz_I _ (by first | omega | exact Nat.zero_le _), smz_I _ (by first | omega | exact Nat.zero_le _), smz_I _ (by first | omega | exact Nat.zero_le _), (smz_L smz_DPart) _ (by first | omega | exact Nat.zero_le _), (smz_L smz_I) _ (by first | omega | exact Nat.zero_le _)⟩
theorem cnw_DCall (x : DCall) : cnDCall x ≤ 5 + 64 * szDCall x := by
  have h5 := (cnz_S cnz_DPart) x.o
  have h6 := (cnz_S cnz_I) x.text
  unfold cnDCall szDCall; (try simp only [cnI, cnB, cnT, cnY, szI, szB, szY] at *); omega
theorem cnz_DCall (x : DCall) : cnDCall x ≤ 64 * (1 + szDCall x) := by have := cnw_DCall x; omega
theorem cvw_DCall (x : DCall) : cvDCall x ≤ 64 * szDCall x := by
  have h0 := (cnz_S cnz_DPart) x.o
  have h1 := (cnz_S cnz_I) x.text
  unfold cvDCall szDCall
  try simp only [szI, szB, szY] at *
  omega
theorem cvz_DCall (x : DCall) : cvDCall x ≤ 64 * (1 + szDCall x) := by have := cvw_DCall x; omega
noncomputable def mkDCall (x : DCall) (k : Int) : DCall := ⟨mkI x.kind k, mkT x.doc (k + 1), mkI x.client (k + 1 + 1), mkI x.seq (k + 1 + 1 + 1), mkI x.n (k + 1 + 1 + 1 + 1), (mkL cnDPart mkDPart) x.o (k + 1 + 1 + 1 + 1 + 1), (mkL cnI mkI) x.text (k + 1 + 1 + 1 + 1 + 1 + ((sumL cnDPart) x.o : Int))⟩
noncomputable def mvDCall (x : DCall) (k : Int) : DCall := ⟨x.kind, x.doc, x.client, x.seq, x.n, (mkL cnDPart mkDPart) x.o k, (mkL cnI mkI) x.text (k + ((sumL cnDPart) x.o : Int))⟩
def smDAnswer (x : DAnswer) : Prop := smI x.code ∧ smI x.rev ∧ (smL smI) x.text ∧ (smL smDEntry) x.list
def wfDAnswer (x : DAnswer) : Prop := wfI x.code ∧ wfI x.rev ∧ (wfL wfI) x.text ∧ (wfL wfDEntry) x.list
def szDAnswer (x : DAnswer) : Nat := (lenL szI) x.text + (lenL szDEntry) x.list
def cnDAnswer (x : DAnswer) : Nat := cnI x.code + cnI x.rev + (sumL cnI) x.text + (sumL cnDEntry) x.list
def cvDAnswer (x : DAnswer) : Nat := (sumL cnI) x.text + (sumL cnDEntry) x.list
theorem smz_DAnswer (x : DAnswer) (h : szDAnswer x ≤ 1099511627776) : smDAnswer x := by unfold szDAnswer at h; exact ⟨smz_I _ (by first | omega | exact Nat.zero_le _), smz_I _ (by first | omega | exact Nat.zero_le _), (smz_L smz_I) _ (by first | omega | exact Nat.zero_le _), (smz_L smz_DEntry) _ (by first | omega | exact Nat.zero_le _)⟩
theorem cnw_DAnswer (x : DAnswer) : cnDAnswer x ≤ 2 + 64 * szDAnswer x := by
  have h2 := (cnz_S cnz_I) x.text
  have h3 := (cnz_S cnz_DEntry) x.list
  unfold cnDAnswer szDAnswer; (try simp only [cnI, cnB, cnT, cnY, szI, szB, szY] at *); omega
theorem cnz_DAnswer (x : DAnswer) : cnDAnswer x ≤ 64 * (1 + szDAnswer x) := by have := cnw_DAnswer x; omega
theorem cvw_DAnswer (x : DAnswer) : cvDAnswer x ≤ 64 * szDAnswer x := by
  have h0 := (cnz_S cnz_I) x.text
  have h1 := (cnz_S cnz_DEntry) x.list
  unfold cvDAnswer szDAnswer
  try simp only [szI, szB, szY] at *
  omega
theorem cvz_DAnswer (x : DAnswer) : cvDAnswer x ≤ 64 * (1 + szDAnswer x) := by have := cvw_DAnswer x; omega
noncomputable def mkDAnswer (x : DAnswer) (k : Int) : DAnswer := ⟨mkI x.code k, mkI x.rev (k + 1), (mkL cnI mkI) x.text (k + 1 + 1), (mkL cnDEntry mkDEntry) x.list (k + 1 + 1 + ((sumL cnI) x.text : Int))⟩
noncomputable def mvDAnswer (x : DAnswer) (k : Int) : DAnswer := ⟨x.code, x.rev, (mkL cnI mkI) x.text k, (mkL cnDEntry mkDEntry) x.list (k + ((sumL cnI) x.text : Int))⟩
def smDTask (x : DTask) : Prop := smDCall x.c ∧ smI x.pc ∧ smI x.inv ∧ smI x.lin ∧ smI x.res ∧ smDAnswer x.a
def wfDTask (x : DTask) : Prop := wfDCall x.c ∧ wfI x.pc ∧ wfI x.inv ∧ wfI x.lin ∧ wfI x.res ∧ wfDAnswer x.a
def szDTask (x : DTask) : Nat := szDCall x.c + szDAnswer x.a
def cnDTask (x : DTask) : Nat := cnDCall x.c + cnI x.pc + cnI x.inv + cnI x.lin + cnI x.res + cnDAnswer x.a
def cvDTask (x : DTask) : Nat := cvDCall x.c + cvDAnswer x.a
theorem smz_DTask (x : DTask) (h : szDTask x ≤ 1099511627776) : smDTask x := by unfold szDTask at h; exact ⟨smz_DCall _ (by first | omega | exact Nat.zero_le _), smz_I _ (by first | omega | exact Nat.zero_le _), smz_I _ (by first | omega | exact Nat.zero_le _), smz_I _ (by first | omega | exact Nat.zero_le _), smz_I _ (by first | omega | exact Nat.zero_le _), smz_DAnswer _ (by first | omega | exact Nat.zero_le _)⟩
theorem cnw_DTask (x : DTask) : cnDTask x ≤ 11 + 64 * szDTask x := by
  have h0 := cnw_DCall x.c
  have h5 := cnw_DAnswer x.a
  unfold cnDTask szDTask; (try simp only [cnI, cnB, cnT, cnY, szI, szB, szY] at *); omega
theorem cnz_DTask (x : DTask) : cnDTask x ≤ 64 * (1 + szDTask x) := by have := cnw_DTask x; omega
theorem cvw_DTask (x : DTask) : cvDTask x ≤ 64 * szDTask x := by
  have h0 := cvw_DCall x.c
  have h1 := cvw_DAnswer x.a
  unfold cvDTask szDTask
  try simp only [szI, szB, szY] at *
  omega
theorem cvz_DTask (x : DTask) : cvDTask x ≤ 64 * (1 + szDTask x) := by have := cvw_DTask x; omega
noncomputable def mkDTask (x : DTask) (k : Int) : DTask := ⟨mkDCall x.c k, mkI x.pc (k + (cnDCall x.c : Int)), mkI x.inv (k + (cnDCall x.c : Int) + 1), mkI x.lin (k + (cnDCall x.c : Int) + 1 + 1), mkI x.res (k + (cnDCall x.c : Int) + 1 + 1 + 1), mkDAnswer x.a (k + (cnDCall x.c : Int) + 1 + 1 + 1 + 1)⟩
noncomputable def mvDTask (x : DTask) (k : Int) : DTask := ⟨mvDCall x.c k, x.pc, x.inv, x.lin, x.res, mvDAnswer x.a (k + (cvDCall x.c : Int))⟩
def smDWorld (x : DWorld) : Prop := smDHub x.h ∧ (smL smI) x.locks ∧ (smL smDQueue) x.queues ∧ (smL smDTask) x.tasks ∧ smI x.step
def wfDWorld (x : DWorld) : Prop := wfDHub x.h ∧ (wfL wfI) x.locks ∧ (wfL wfDQueue) x.queues ∧ (wfL wfDTask) x.tasks ∧ wfI x.step
def szDWorld (x : DWorld) : Nat := szDHub x.h + (lenL szI) x.locks + (lenL szDQueue) x.queues + (lenL szDTask) x.tasks
def cnDWorld (x : DWorld) : Nat := cnDHub x.h + (sumL cnI) x.locks + (sumL cnDQueue) x.queues + (sumL cnDTask) x.tasks + cnI x.step
def cvDWorld (x : DWorld) : Nat := cvDHub x.h + (sumL cnI) x.locks + (sumL cnDQueue) x.queues + (sumL cnDTask) x.tasks
theorem smz_DWorld (x : DWorld) (h : szDWorld x ≤ 1099511627776) : smDWorld x := by unfold szDWorld at h; exact ⟨smz_DHub _ (by first | omega | exact Nat.zero_le _), (smz_L smz_I) _ (by first | omega | exact Nat.zero_le _), (smz_L smz_DQueue) _ (by first | omega | exact Nat.zero_le _), (smz_L smz_DTask) _ (by first | omega | exact Nat.zero_le _), smz_I _ (by first | omega | exact Nat.zero_le _)⟩
theorem cnw_DWorld (x : DWorld) : cnDWorld x ≤ 3 + 64 * szDWorld x := by
  have h0 := cnw_DHub x.h
  have h1 := (cnz_S cnz_I) x.locks
  have h2 := (cnz_S cnz_DQueue) x.queues
  have h3 := (cnz_S cnz_DTask) x.tasks
  unfold cnDWorld szDWorld; (try simp only [cnI, cnB, cnT, cnY, szI, szB, szY] at *); omega
theorem cnz_DWorld (x : DWorld) : cnDWorld x ≤ 64 * (1 + szDWorld x) := by have := cnw_DWorld x; omega
theorem cvw_DWorld (x : DWorld) : cvDWorld x ≤ 64 * szDWorld x := by
  have h0 := cvw_DHub x.h
  have h1 := (cnz_S cnz_I) x.locks
  have h2 := (cnz_S cnz_DQueue) x.queues
  have h3 := (cnz_S cnz_DTask) x.tasks
  unfold cvDWorld szDWorld
  try simp only [szI, szB, szY] at *
  omega
theorem cvz_DWorld (x : DWorld) : cvDWorld x ≤ 64 * (1 + szDWorld x) := by have := cvw_DWorld x; omega
noncomputable def mkDWorld (x : DWorld) (k : Int) : DWorld := ⟨mkDHub x.h k, (mkL cnI mkI) x.locks (k + (cnDHub x.h : Int)), (mkL cnDQueue mkDQueue) x.queues (k + (cnDHub x.h : Int) + ((sumL cnI) x.locks : Int)), (mkL cnDTask mkDTask) x.tasks (k + (cnDHub x.h : Int) + ((sumL cnI) x.locks : Int) + ((sumL cnDQueue) x.queues : Int)), mkI x.step (k + (cnDHub x.h : Int) + ((sumL cnI) x.locks : Int) + ((sumL cnDQueue) x.queues : Int) + ((sumL cnDTask) x.tasks : Int))⟩
noncomputable def mvDWorld (x : DWorld) (k : Int) : DWorld := ⟨mvDHub x.h k, (mkL cnI mkI) x.locks (k + (cvDHub x.h : Int)), (mkL cnDQueue mkDQueue) x.queues (k + (cvDHub x.h : Int) + ((sumL cnI) x.locks : Int)), (mkL cnDTask mkDTask) x.tasks (k + (cvDHub x.h : Int) + ((sumL cnI) x.locks : Int) + ((sumL cnDQueue) x.queues : Int)), x.step⟩
def smDL02B (x : DL02B) : Prop := (smL smDPart) x.list ∧ (smL smI) x.put ∧ smI x.drop
def wfDL02B (x : DL02B) : Prop := (wfL wfDPart) x.list ∧ (wfL wfI) x.put ∧ wfI x.drop
def szDL02B (x : DL02B) : Nat := (lenL szDPart) x.list + (lenL szI) x.put
def cnDL02B (x : DL02B) : Nat := (sumL cnDPart) x.list + (sumL cnI) x.put + cnI x.drop
def cvDL02B (x : DL02B) : Nat := (sumL cnDPart) x.list + (sumL cnI) x.put
theorem smz_DL02B (x : DL02B) (h : szDL02B x ≤ 1099511627776) : smDL02B x := by unfold szDL02B at h; exact ⟨(smz_L smz_DPart) _ (by first | omega | exact Nat.zero_le _), (smz_L smz_I) _ (by first | omega | exact Nat.zero_le _), smz_I _ (by first | omega | exact Nat.zero_le _)⟩
theorem cnw_DL02B (x : DL02B) : cnDL02B x ≤ 1 + 64 * szDL02B x := by
  have h0 := (cnz_S cnz_DPart) x.list
  have h1 := (cnz_S cnz_I) x.put
  unfold cnDL02B szDL02B; (try simp only [cnI, cnB, cnT, cnY, szI, szB, szY] at *); omega
theorem cnz_DL02B (x : DL02B) : cnDL02B x ≤ 64 * (1 + szDL02B x) := by have := cnw_DL02B x; omega
theorem cvw_DL02B (x : DL02B) : cvDL02B x ≤ 64 * szDL02B x := by
  have h0 := (cnz_S cnz_DPart) x.list
  have h1 := (cnz_S cnz_I) x.put
  unfold cvDL02B szDL02B
  try simp only [szI, szB, szY] at *
  omega
theorem cvz_DL02B (x : DL02B) : cvDL02B x ≤ 64 * (1 + szDL02B x) := by have := cvw_DL02B x; omega
noncomputable def mkDL02B (x : DL02B) (k : Int) : DL02B := ⟨(mkL cnDPart mkDPart) x.list k, (mkL cnI mkI) x.put (k + ((sumL cnDPart) x.list : Int)), mkI x.drop (k + ((sumL cnDPart) x.list : Int) + ((sumL cnI) x.put : Int))⟩
noncomputable def mvDL02B (x : DL02B) (k : Int) : DL02B := ⟨(mkL cnDPart mkDPart) x.list k, (mkL cnI mkI) x.put (k + ((sumL cnDPart) x.list : Int)), x.drop⟩
end Go.Proofs.YtjbonmmmcnpjiaaGreatDoor
