/- What is counted in data of this program. No condition. -/
import Derived.Test.YthfkcpdechjmnaaTy3
import Derived.Test.YthfkcpdechjmnaaMl
namespace Go.Proofs.Ythfkcpdechjmnaa
def smDPart (x : DPart) : Prop := smI x.kind ∧ smI x.n ∧ (smL smI) x.signs
def wfDPart (x : DPart) : Prop := wfI x.kind ∧ wfI x.n ∧ (wfL wfI) x.signs
def szDPart (x : DPart) : Nat := (lenL szI) x.signs
def cnDPart (x : DPart) : Nat := cnI x.kind + cnI x.n + (sumL cnI) x.signs
def cvDPart (x : DPart) : Nat := (sumL cnI) x.signs
theorem smz_DPart (x : DPart) (h : szDPart x ≤ 1099511627776) : smDPart x := by unfold szDPart at h; exact ⟨smz_I _ (by first | omega | exact Nat.zero_le _), smz_I _ (by first | omega | exact Nat.zero_le _), (smz_L smz_I) _ (by first | omega | exact Nat.zero_le _)⟩
theorem cnz_DPart (x : DPart) : cnDPart x ≤ 64 * (1 + szDPart x) := by
  have h0 := cnz_I x.kind
  have h1 := cnz_I x.n
  have h2 := (cnz_S cnz_I) x.signs
  unfold cnDPart szDPart; (try simp only [cnI, cnB, cnT, cnY, szI, szB, szY] at *); omega
theorem cvz_DPart (x : DPart) : cvDPart x ≤ 64 * (1 + szDPart x) := by
  have h0 := (cnz_S cnz_I) x.signs
  unfold cvDPart szDPart
  try simp only [szI, szB, szY] at *
  omega
noncomputable def mkDPart (x : DPart) (k : Int) : DPart := ⟨mkI x.kind k, mkI x.n (k + 1), (mkL cnI mkI) x.signs (k + 1 + 1)⟩
noncomputable def mvDPart (x : DPart) (k : Int) : DPart := ⟨x.kind, x.n, (mkL cnI mkI) x.signs k⟩
def smDStory (x : DStory) : Prop := smI x.n ∧ (smL (smL smDPart)) x.undo ∧ (smL (smL smDPart)) x.redo
def wfDStory (x : DStory) : Prop := wfI x.n ∧ (wfL (wfL wfDPart)) x.undo ∧ (wfL (wfL wfDPart)) x.redo
def szDStory (x : DStory) : Nat := (lenL (lenL szDPart)) x.undo + (lenL (lenL szDPart)) x.redo
def cnDStory (x : DStory) : Nat := cnI x.n + (sumL (sumL cnDPart)) x.undo + (sumL (sumL cnDPart)) x.redo
def cvDStory (x : DStory) : Nat := (sumL (sumL cnDPart)) x.undo + (sumL (sumL cnDPart)) x.redo
theorem smz_DStory (x : DStory) (h : szDStory x ≤ 1099511627776) : smDStory x := by unfold szDStory at h; exact ⟨smz_I _ (by first | omega | exact Nat.zero_le _), (smz_L (smz_L smz_DPart)) _ (by first | omega | exact Nat.zero_le _), (smz_L (smz_L smz_DPart)) _ (by first | omega | exact Nat.zero_le _)⟩
theorem cnz_DStory (x : DStory) : cnDStory x ≤ 64 * (1 + szDStory x) := by
  have h0 := cnz_I x.n
  have h1 := (cnz_S (cnz_L cnz_DPart)) x.undo
  have h2 := (cnz_S (cnz_L cnz_DPart)) x.redo
  unfold cnDStory szDStory; (try simp only [cnI, cnB, cnT, cnY, szI, szB, szY] at *); omega
theorem cvz_DStory (x : DStory) : cvDStory x ≤ 64 * (1 + szDStory x) := by
  have h0 := (cnz_S (cnz_L cnz_DPart)) x.undo
  have h1 := (cnz_S (cnz_L cnz_DPart)) x.redo
  unfold cvDStory szDStory
  try simp only [szI, szB, szY] at *
  omega
noncomputable def mkDStory (x : DStory) (k : Int) : DStory := ⟨mkI x.n k, (mkL (sumL cnDPart) (mkL cnDPart mkDPart)) x.undo (k + 1), (mkL (sumL cnDPart) (mkL cnDPart mkDPart)) x.redo (k + 1 + ((sumL (sumL cnDPart)) x.undo : Int))⟩
noncomputable def mvDStory (x : DStory) (k : Int) : DStory := ⟨x.n, (mkL (sumL cnDPart) (mkL cnDPart mkDPart)) x.undo k, (mkL (sumL cnDPart) (mkL cnDPart mkDPart)) x.redo (k + ((sumL (sumL cnDPart)) x.undo : Int))⟩
def smDL01Cur (x : DL01Cur) : Prop := (smL smY) x.b ∧ smI x.i ∧ smI x.h
def wfDL01Cur (x : DL01Cur) : Prop := (wfL wfY) x.b ∧ wfI x.i ∧ wfI x.h
def szDL01Cur (x : DL01Cur) : Nat := (lenL szY) x.b
def cnDL01Cur (x : DL01Cur) : Nat := (sumL cnY) x.b + cnI x.i + cnI x.h
def cvDL01Cur (x : DL01Cur) : Nat := (sumL cnY) x.b
theorem smz_DL01Cur (x : DL01Cur) (h : szDL01Cur x ≤ 1099511627776) : smDL01Cur x := by unfold szDL01Cur at h; exact ⟨(smz_L smz_Y) _ (by first | omega | exact Nat.zero_le _), smz_I _ (by first | omega | exact Nat.zero_le _), smz_I _ (by first | omega | exact Nat.zero_le _)⟩
theorem cnz_DL01Cur (x : DL01Cur) : cnDL01Cur x ≤ 64 * (1 + szDL01Cur x) := by
  have h0 := (cnz_S cnz_Y) x.b
  have h1 := cnz_I x.i
  have h2 := cnz_I x.h
  unfold cnDL01Cur szDL01Cur; (try simp only [cnI, cnB, cnT, cnY, szI, szB, szY] at *); omega
theorem cvz_DL01Cur (x : DL01Cur) : cvDL01Cur x ≤ 64 * (1 + szDL01Cur x) := by
  have h0 := (cnz_S cnz_Y) x.b
  unfold cvDL01Cur szDL01Cur
  try simp only [szI, szB, szY] at *
  omega
noncomputable def mkDL01Cur (x : DL01Cur) (k : Int) : DL01Cur := ⟨(mkL cnY mkY) x.b k, mkI x.i (k + ((sumL cnY) x.b : Int)), mkI x.h (k + ((sumL cnY) x.b : Int) + 1)⟩
noncomputable def mvDL01Cur (x : DL01Cur) (k : Int) : DL01Cur := ⟨(mkL cnY mkY) x.b k, x.i, x.h⟩
def smDRest (x : DRest) : Prop := (smL smDPart) x.parts
def wfDRest (x : DRest) : Prop := (wfL wfDPart) x.parts
def szDRest (x : DRest) : Nat := (lenL szDPart) x.parts
def cnDRest (x : DRest) : Nat := (sumL cnDPart) x.parts
def cvDRest (x : DRest) : Nat := (sumL cnDPart) x.parts
theorem smz_DRest (x : DRest) (h : szDRest x ≤ 1099511627776) : smDRest x := by unfold szDRest at h; exact (smz_L smz_DPart) _ (by first | omega | exact Nat.zero_le _)
theorem cnz_DRest (x : DRest) : cnDRest x ≤ 64 * (1 + szDRest x) := by
  have h0 := (cnz_S cnz_DPart) x.parts
  unfold cnDRest szDRest; (try simp only [cnI, cnB, cnT, cnY, szI, szB, szY] at *); omega
theorem cvz_DRest (x : DRest) : cvDRest x ≤ 64 * (1 + szDRest x) := by
  have h0 := (cnz_S cnz_DPart) x.parts
  unfold cvDRest szDRest
  try simp only [szI, szB, szY] at *
  omega
noncomputable def mkDRest (x : DRest) (k : Int) : DRest := ⟨(mkL cnDPart mkDPart) x.parts k⟩
noncomputable def mvDRest (x : DRest) (k : Int) : DRest := ⟨(mkL cnDPart mkDPart) x.parts k⟩
def smDEntry (x : DEntry) : Prop := smI x.client ∧ smI x.seq ∧ (smL smDPart) x.o
def wfDEntry (x : DEntry) : Prop := wfI x.client ∧ wfI x.seq ∧ (wfL wfDPart) x.o
def szDEntry (x : DEntry) : Nat := (lenL szDPart) x.o
def cnDEntry (x : DEntry) : Nat := cnI x.client + cnI x.seq + (sumL cnDPart) x.o
def cvDEntry (x : DEntry) : Nat := (sumL cnDPart) x.o
theorem smz_DEntry (x : DEntry) (h : szDEntry x ≤ 1099511627776) : smDEntry x := by unfold szDEntry at h; exact ⟨smz_I _ (by first | omega | exact Nat.zero_le _), smz_I _ (by first | omega | exact Nat.zero_le _), (smz_L smz_DPart) _ (by first | omega | exact Nat.zero_le _)⟩
theorem cnz_DEntry (x : DEntry) : cnDEntry x ≤ 64 * (1 + szDEntry x) := by
  have h0 := cnz_I x.client
  have h1 := cnz_I x.seq
  have h2 := (cnz_S cnz_DPart) x.o
  unfold cnDEntry szDEntry; (try simp only [cnI, cnB, cnT, cnY, szI, szB, szY] at *); omega
theorem cvz_DEntry (x : DEntry) : cvDEntry x ≤ 64 * (1 + szDEntry x) := by
  have h0 := (cnz_S cnz_DPart) x.o
  unfold cvDEntry szDEntry
  try simp only [szI, szB, szY] at *
  omega
noncomputable def mkDEntry (x : DEntry) (k : Int) : DEntry := ⟨mkI x.client k, mkI x.seq (k + 1), (mkL cnDPart mkDPart) x.o (k + 1 + 1)⟩
noncomputable def mvDEntry (x : DEntry) (k : Int) : DEntry := ⟨x.client, x.seq, (mkL cnDPart mkDPart) x.o k⟩
def smDL04Cur (x : DL04Cur) : Prop := (smL smDPart) x.o ∧ smI x.at_ ∧ smI x.done
def wfDL04Cur (x : DL04Cur) : Prop := (wfL wfDPart) x.o ∧ wfI x.at_ ∧ wfI x.done
def szDL04Cur (x : DL04Cur) : Nat := (lenL szDPart) x.o
def cnDL04Cur (x : DL04Cur) : Nat := (sumL cnDPart) x.o + cnI x.at_ + cnI x.done
def cvDL04Cur (x : DL04Cur) : Nat := (sumL cnDPart) x.o
theorem smz_DL04Cur (x : DL04Cur) (h : szDL04Cur x ≤ 1099511627776) : smDL04Cur x := by unfold szDL04Cur at h; exact ⟨(smz_L smz_DPart) _ (by first | omega | exact Nat.zero_le _), smz_I _ (by first | omega | exact Nat.zero_le _), smz_I _ (by first | omega | exact Nat.zero_le _)⟩
theorem cnz_DL04Cur (x : DL04Cur) : cnDL04Cur x ≤ 64 * (1 + szDL04Cur x) := by
  have h0 := (cnz_S cnz_DPart) x.o
  have h1 := cnz_I x.at_
  have h2 := cnz_I x.done
  unfold cnDL04Cur szDL04Cur; (try simp only [cnI, cnB, cnT, cnY, szI, szB, szY] at *); omega
theorem cvz_DL04Cur (x : DL04Cur) : cvDL04Cur x ≤ 64 * (1 + szDL04Cur x) := by
  have h0 := (cnz_S cnz_DPart) x.o
  unfold cvDL04Cur szDL04Cur
  try simp only [szI, szB, szY] at *
  omega
noncomputable def mkDL04Cur (x : DL04Cur) (k : Int) : DL04Cur := ⟨(mkL cnDPart mkDPart) x.o k, mkI x.at_ (k + ((sumL cnDPart) x.o : Int)), mkI x.done (k + ((sumL cnDPart) x.o : Int) + 1)⟩
noncomputable def mvDL04Cur (x : DL04Cur) (k : Int) : DL04Cur := ⟨(mkL cnDPart mkDPart) x.o k, x.at_, x.done⟩
def smDL02B (x : DL02B) : Prop := (smL smDPart) x.list ∧ (smL smI) x.put ∧ smI x.drop
def wfDL02B (x : DL02B) : Prop := (wfL wfDPart) x.list ∧ (wfL wfI) x.put ∧ wfI x.drop
def szDL02B (x : DL02B) : Nat := (lenL szDPart) x.list + (lenL szI) x.put
def cnDL02B (x : DL02B) : Nat := (sumL cnDPart) x.list + (sumL cnI) x.put + cnI x.drop
def cvDL02B (x : DL02B) : Nat := (sumL cnDPart) x.list + (sumL cnI) x.put
theorem smz_DL02B (x : DL02B) (h : szDL02B x ≤ 1099511627776) : smDL02B x := by unfold szDL02B at h; exact ⟨(smz_L smz_DPart) _ (by first | omega | exact Nat.zero_le _), (smz_L smz_I) _ (by first | omega | exact Nat.zero_le _), smz_I _ (by first | omega | exact Nat.zero_le _)⟩
theorem cnz_DL02B (x : DL02B) : cnDL02B x ≤ 64 * (1 + szDL02B x) := by
  have h0 := (cnz_S cnz_DPart) x.list
  have h1 := (cnz_S cnz_I) x.put
  have h2 := cnz_I x.drop
  unfold cnDL02B szDL02B; (try simp only [cnI, cnB, cnT, cnY, szI, szB, szY] at *); omega
theorem cvz_DL02B (x : DL02B) : cvDL02B x ≤ 64 * (1 + szDL02B x) := by
  have h0 := (cnz_S cnz_DPart) x.list
  have h1 := (cnz_S cnz_I) x.put
  unfold cvDL02B szDL02B
  try simp only [szI, szB, szY] at *
  omega
noncomputable def mkDL02B (x : DL02B) (k : Int) : DL02B := ⟨(mkL cnDPart mkDPart) x.list k, (mkL cnI mkI) x.put (k + ((sumL cnDPart) x.list : Int)), mkI x.drop (k + ((sumL cnDPart) x.list : Int) + ((sumL cnI) x.put : Int))⟩
noncomputable def mvDL02B (x : DL02B) (k : Int) : DL02B := ⟨(mkL cnDPart mkDPart) x.list k, (mkL cnI mkI) x.put (k + ((sumL cnDPart) x.list : Int)), x.drop⟩
end Go.Proofs.Ythfkcpdechjmnaa
