/- What is counted in data of this program. No condition. -/
import Derived.Test.YtlgmikaemfbmaaaGreatTy3
import Derived.Test.YtlgmikaemfbmaaaGreatMl
namespace Go.Proofs.YtlgmikaemfbmaaaGreat
def smDPart (x : DPart) : Prop := smI x.kind ∧ smI x.n ∧ (smL smI) x.signs
def wfDPart (x : DPart) : Prop := wfI x.kind ∧ wfI x.n ∧ (wfL wfI) x.signs
def szDPart (x : DPart) : Nat := (lenL szI) x.signs
def cnDPart (x : DPart) : Nat := cnI x.kind + cnI x.n + (sumL cnI) x.signs
def cvDPart (x : DPart) : Nat := (sumL cnI) x.signs
theorem smz_DPart (x : DPart) (h : szDPart x ≤ 1099511627776) : smDPart x := by unfold szDPart at h; exact ⟨smz_I _ (by first | omega | exact Nat.zero_le _), smz_I _ (by first | omega | exact Nat.zero_le _), (smz_L smz_I) _ (by first | omega | exact Nat.zero_le _)⟩
theorem cnw_DPart (x : DPart) : cnDPart x ≤ 2 + 64 * szDPart x := by
  have h2 := (cnz_S cnz_I) x.signs
  unfold cnDPart szDPart; (try simp only [cnI, cnB, cnT, cnY, szI, szB, szY] at *); omega
theorem cnz_DPart (x : DPart) : cnDPart x ≤ 64 * (1 + szDPart x) := by have := cnw_DPart x; omega
theorem cvw_DPart (x : DPart) : cvDPart x ≤ 64 * szDPart x := by
  have h0 := (cnz_S cnz_I) x.signs
  unfold cvDPart szDPart
  try simp only [szI, szB, szY] at *
  omega
theorem cvz_DPart (x : DPart) : cvDPart x ≤ 64 * (1 + szDPart x) := by have := cvw_DPart x; omega
noncomputable def mkDPart (x : DPart) (k : Int) : DPart := ⟨mkI x.kind k, mkI x.n (k + 1), (mkL cnI mkI) x.signs (k + 1 + 1)⟩
noncomputable def mvDPart (x : DPart) (k : Int) : DPart := ⟨x.kind, x.n, (mkL cnI mkI) x.signs k⟩
def smDEntry (x : DEntry) : Prop := smI x.client ∧ smI x.seq ∧ (smL smDPart) x.o
def wfDEntry (x : DEntry) : Prop := wfI x.client ∧ wfI x.seq ∧ (wfL wfDPart) x.o
def szDEntry (x : DEntry) : Nat := (lenL szDPart) x.o
def cnDEntry (x : DEntry) : Nat := cnI x.client + cnI x.seq + (sumL cnDPart) x.o
def cvDEntry (x : DEntry) : Nat := (sumL cnDPart) x.o
theorem smz_DEntry (x : DEntry) (h : szDEntry x ≤ 1099511627776) : smDEntry x := by unfold szDEntry at h; exact ⟨smz_I _ (by first | omega | exact Nat.zero_le _), smz_I _ (by first | omega | exact Nat.zero_le _), (smz_L smz_DPart) _ (by first | omega | exact Nat.zero_le _)⟩
theorem cnw_DEntry (x : DEntry) : cnDEntry x ≤ 2 + 64 * szDEntry x := by
  have h2 := (cnz_S cnz_DPart) x.o
  unfold cnDEntry szDEntry; (try simp only [cnI, cnB, cnT, cnY, szI, szB, szY] at *); omega
theorem cnz_DEntry (x : DEntry) : cnDEntry x ≤ 64 * (1 + szDEntry x) := by have := cnw_DEntry x; omega
theorem cvw_DEntry (x : DEntry) : cvDEntry x ≤ 64 * szDEntry x := by
  have h0 := (cnz_S cnz_DPart) x.o
  unfold cvDEntry szDEntry
  try simp only [szI, szB, szY] at *
  omega
theorem cvz_DEntry (x : DEntry) : cvDEntry x ≤ 64 * (1 + szDEntry x) := by have := cvw_DEntry x; omega
noncomputable def mkDEntry (x : DEntry) (k : Int) : DEntry := ⟨mkI x.client k, mkI x.seq (k + 1), (mkL cnDPart mkDPart) x.o (k + 1 + 1)⟩
noncomputable def mvDEntry (x : DEntry) (k : Int) : DEntry := ⟨x.client, x.seq, (mkL cnDPart mkDPart) x.o k⟩
def smDSeen (x : DSeen) : Prop := smI x.client ∧ smI x.seq ∧ smI x.rev
def wfDSeen (x : DSeen) : Prop := wfI x.client ∧ wfI x.seq ∧ wfI x.rev
def szDSeen (x : DSeen) : Nat := 0
def cnDSeen (x : DSeen) : Nat := cnI x.client + cnI x.seq + cnI x.rev
def cvDSeen (x : DSeen) : Nat := 0
theorem smz_DSeen (x : DSeen) (h : szDSeen x ≤ 1099511627776) : smDSeen x := by unfold szDSeen at h; exact ⟨smz_I _ (by first | omega | exact Nat.zero_le _), smz_I _ (by first | omega | exact Nat.zero_le _), smz_I _ (by first | omega | exact Nat.zero_le _)⟩
theorem cnw_DSeen (x : DSeen) : cnDSeen x ≤ 3 + 64 * szDSeen x := by
  unfold cnDSeen szDSeen; (try simp only [cnI, cnB, cnT, cnY, szI, szB, szY] at *); omega
theorem cnz_DSeen (x : DSeen) : cnDSeen x ≤ 64 * (1 + szDSeen x) := by have := cnw_DSeen x; omega
theorem cvw_DSeen (x : DSeen) : cvDSeen x ≤ 64 * szDSeen x := by
  unfold cvDSeen szDSeen
  try simp only [szI, szB, szY] at *
  omega
theorem cvz_DSeen (x : DSeen) : cvDSeen x ≤ 64 * (1 + szDSeen x) := by have := cvw_DSeen x; omega
noncomputable def mkDSeen (x : DSeen) (k : Int) : DSeen := ⟨mkI x.client k, mkI x.seq (k + 1), mkI x.rev (k + 1 + 1)⟩
noncomputable def mvDSeen (x : DSeen) (k : Int) : DSeen := ⟨x.client, x.seq, x.rev⟩
def smDDoc (x : DDoc) : Prop := smT x.name ∧ smI x.from_ ∧ (smL smI) x.text ∧ (smL smDEntry) x.list ∧ (smL smDSeen) x.seen
def wfDDoc (x : DDoc) : Prop := wfT x.name ∧ wfI x.from_ ∧ (wfL wfI) x.text ∧ (wfL wfDEntry) x.list ∧ (wfL wfDSeen) x.seen
def szDDoc (x : DDoc) : Nat := szT x.name + (lenL szI) x.text + (lenL szDEntry) x.list + (lenL szDSeen) x.seen
def cnDDoc (x : DDoc) : Nat := cnT x.name + cnI x.from_ + (sumL cnI) x.text + (sumL cnDEntry) x.list + (sumL cnDSeen) x.seen
def cvDDoc (x : DDoc) : Nat := (sumL cnI) x.text + (sumL cnDEntry) x.list + (sumL cnDSeen) x.seen
theorem smz_DDoc (x : DDoc) (h : szDDoc x ≤ 1099511627776) : smDDoc x := by unfold szDDoc at h; exact ⟨smz_T _ (by first | omega | exact Nat.zero_le _), smz_I _ (by first | omega | exact Nat.zero_le _), (smz_L smz_I) _ (by first | omega | exact Nat.zero_le _), (smz_L smz_DEntry) _ (by first | omega | exact Nat.zero_le _), (smz_L smz_DSeen) _ (by first | omega | exact Nat.zero_le _)⟩
theorem cnw_DDoc (x : DDoc) : cnDDoc x ≤ 2 + 64 * szDDoc x := by
  have h2 := (cnz_S cnz_I) x.text
  have h3 := (cnz_S cnz_DEntry) x.list
  have h4 := (cnz_S cnz_DSeen) x.seen
  unfold cnDDoc szDDoc; (try simp only [cnI, cnB, cnT, cnY, szI, szB, szY] at *); omega
theorem cnz_DDoc (x : DDoc) : cnDDoc x ≤ 64 * (1 + szDDoc x) := by have := cnw_DDoc x; omega
theorem cvw_DDoc (x : DDoc) : cvDDoc x ≤ 64 * szDDoc x := by
  have h0 := (cnz_S cnz_I) x.text
  have h1 := (cnz_S cnz_DEntry) x.list
  have h2 := (cnz_S cnz_DSeen) x.seen
  unfold cvDDoc szDDoc
  try simp only [szI, szB, szY] at *
  omega
theorem cvz_DDoc (x : DDoc) : cvDDoc x ≤ 64 * (1 + szDDoc x) := by have := cvw_DDoc x; omega
noncomputable def mkDDoc (x : DDoc) (k : Int) : DDoc := ⟨mkT x.name k, mkI x.from_ (k + 1), (mkL cnI mkI) x.text (k + 1 + 1), (mkL cnDEntry mkDEntry) x.list (k + 1 + 1 + ((sumL cnI) x.text : Int)), (mkL cnDSeen mkDSeen) x.seen (k + 1 + 1 + ((sumL cnI) x.text : Int) + ((sumL cnDEntry) x.list : Int))⟩
noncomputable def mvDDoc (x : DDoc) (k : Int) : DDoc := ⟨x.name, x.from_, (mkL cnI mkI) x.text k, (mkL cnDEntry mkDEntry) x.list (k + ((sumL cnI) x.text : Int)), (mkL cnDSeen mkDSeen) x.seen (k + ((sumL cnI) x.text : Int) + ((sumL cnDEntry) x.list : Int))⟩
def smDL01Cur (x : DL01Cur) : Prop := (smL smY) x.b ∧ smI x.i ∧ smI x.h
def wfDL01Cur (x : DL01Cur) : Prop := (wfL wfY) x.b ∧ wfI x.i ∧ wfI x.h
def szDL01Cur (x : DL01Cur) : Nat := (lenL szY) x.b
def cnDL01Cur (x : DL01Cur) : Nat := (sumL cnY) x.b + cnI x.i + cnI x.h
def cvDL01Cur (x : DL01Cur) : Nat := (sumL cnY) x.b
theorem smz_DL01Cur (x : DL01Cur) (h : szDL01Cur x ≤ 1099511627776) : smDL01Cur x := by unfold szDL01Cur at h; exact ⟨(smz_L smz_Y) _ (by first | omega | exact Nat.zero_le _), smz_I _ (by first | omega | exact Nat.zero_le _), smz_I _ (by first | omega | exact Nat.zero_le _)⟩
theorem cnw_DL01Cur (x : DL01Cur) : cnDL01Cur x ≤ 2 + 64 * szDL01Cur x := by
  have h0 := (cnz_S cnz_Y) x.b
  unfold cnDL01Cur szDL01Cur; (try simp only [cnI, cnB, cnT, cnY, szI, szB, szY] at *); omega
theorem cnz_DL01Cur (x : DL01Cur) : cnDL01Cur x ≤ 64 * (1 + szDL01Cur x) := by have := cnw_DL01Cur x; omega
theorem cvw_DL01Cur (x : DL01Cur) : cvDL01Cur x ≤ 64 * szDL01Cur x := by
  have h0 := (cnz_S cnz_Y) x.b
  unfold cvDL01Cur szDL01Cur
  try simp only [szI, szB, szY] at *
  omega
theorem cvz_DL01Cur (x : DL01Cur) : cvDL01Cur x ≤ 64 * (1 + szDL01Cur x) := by have := cvw_DL01Cur x; omega
noncomputable def mkDL01Cur (x : DL01Cur) (k : Int) : DL01Cur := ⟨(mkL cnY mkY) x.b k, mkI x.i (k + ((sumL cnY) x.b : Int)), mkI x.h (k + ((sumL cnY) x.b : Int) + 1)⟩
noncomputable def mvDL01Cur (x : DL01Cur) (k : Int) : DL01Cur := ⟨(mkL cnY mkY) x.b k, x.i, x.h⟩
def smDReader (x : DReader) : Prop := (smL smY) x.b ∧ smI x.at_ ∧ smB x.bad
def wfDReader (x : DReader) : Prop := (wfL wfY) x.b ∧ wfI x.at_ ∧ wfB x.bad
def szDReader (x : DReader) : Nat := (lenL szY) x.b
def cnDReader (x : DReader) : Nat := (sumL cnY) x.b + cnI x.at_ + cnB x.bad
def cvDReader (x : DReader) : Nat := (sumL cnY) x.b
theorem smz_DReader (x : DReader) (h : szDReader x ≤ 1099511627776) : smDReader x := by unfold szDReader at h; exact ⟨(smz_L smz_Y) _ (by first | omega | exact Nat.zero_le _), smz_I _ (by first | omega | exact Nat.zero_le _), smz_B _ (by first | omega | exact Nat.zero_le _)⟩
theorem cnw_DReader (x : DReader) : cnDReader x ≤ 2 + 64 * szDReader x := by
  have h0 := (cnz_S cnz_Y) x.b
  unfold cnDReader szDReader; (try simp only [cnI, cnB, cnT, cnY, szI, szB, szY] at *); omega
theorem cnz_DReader (x : DReader) : cnDReader x ≤ 64 * (1 + szDReader x) := by have := cnw_DReader x; omega
theorem cvw_DReader (x : DReader) : cvDReader x ≤ 64 * szDReader x := by
  have h0 := (cnz_S cnz_Y) x.b
  unfold cvDReader szDReader
  try simp only [szI, szB, szY] at *
  omega
theorem cvz_DReader (x : DReader) : cvDReader x ≤ 64 * (1 + szDReader x) := by have := cvw_DReader x; omega
noncomputable def mkDReader (x : DReader) (k : Int) : DReader := ⟨(mkL cnY mkY) x.b k, mkI x.at_ (k + ((sumL cnY) x.b : Int)), mkB x.bad (k + ((sumL cnY) x.b : Int) + 1)⟩
noncomputable def mvDReader (x : DReader) (k : Int) : DReader := ⟨(mkL cnY mkY) x.b k, x.at_, x.bad⟩
def smDRest (x : DRest) : Prop := (smL smDPart) x.parts
def wfDRest (x : DRest) : Prop := (wfL wfDPart) x.parts
def szDRest (x : DRest) : Nat := (lenL szDPart) x.parts
def cnDRest (x : DRest) : Nat := (sumL cnDPart) x.parts
def cvDRest (x : DRest) : Nat := (sumL cnDPart) x.parts
theorem smz_DRest (x : DRest) (h : szDRest x ≤ 1099511627776) : smDRest x := by unfold szDRest at h; exact (smz_L smz_DPart) _ (by first | omega | exact Nat.zero_le _)
theorem cnw_DRest (x : DRest) : cnDRest x ≤ 0 + 64 * szDRest x := by
  have h0 := (cnz_S cnz_DPart) x.parts
  unfold cnDRest szDRest; (try simp only [cnI, cnB, cnT, cnY, szI, szB, szY] at *); omega
theorem cnz_DRest (x : DRest) : cnDRest x ≤ 64 * (1 + szDRest x) := by have := cnw_DRest x; omega
theorem cvw_DRest (x : DRest) : cvDRest x ≤ 64 * szDRest x := by
  have h0 := (cnz_S cnz_DPart) x.parts
  unfold cvDRest szDRest
  try simp only [szI, szB, szY] at *
  omega
theorem cvz_DRest (x : DRest) : cvDRest x ≤ 64 * (1 + szDRest x) := by have := cvw_DRest x; omega
noncomputable def mkDRest (x : DRest) (k : Int) : DRest := ⟨(mkL cnDPart mkDPart) x.parts k⟩
noncomputable def mvDRest (x : DRest) (k : Int) : DRest := ⟨(mkL cnDPart mkDPart) x.parts k⟩
def smDL02B (x : DL02B) : Prop := (smL smDPart) x.list ∧ (smL smI) x.put ∧ smI x.drop
def wfDL02B (x : DL02B) : Prop := (wfL wfDPart) x.list ∧ (wfL wfI) x.put ∧ wfI x.drop
def szDL02B (x : DL02B) : Nat := (lenL szDPart) x.list + (lenL szI) x.put
def cnDL02B (x : DL02B) : Nat := (sumL cnDPart) x.list + (sumL cnI) x.put + cnI x.drop
def cvDL02B (x : DL02B) : Nat := (sumL cnDPart) x.list + (sumL cnI) x.put
theorem smz_DL02B (x : DL02B) (h : szDL02B x ≤ 1099511627776) : smDL02B x := by unfold szDL02B at h; exact ⟨(smz_L smz_DPart) _ (by first | omega | exact Nat.zero_le _), (smz_L smz_I) _ (by first | omega | exact Nat.zero_le _), smz_I _ (by first | omega | exact Nat.zero_le _)⟩
theorem cnw_DL02B (x : DL02B) : cnDL02B x ≤ 1 + 64 * szDL02B x := by
  have h0 := (cnz_S cnz_DPart) x.list
  have h1 := (cnz_S cnz_I) x.put
  unfold cnDL02B szDL02B; (try simp only [cnI, cnB, cnT, cnY, szI, szB, szY] at *); omega
theorem cnz_DL02B (x : DL02B) : cnDL02B x ≤ 64 * (1 + szDL02B x) := by have := cnw_DL02B x; omega
theorem cvw_DL02B (x : DL02B) : cvDL02B x ≤ 64 * szDL02B x := by
  have h0 := (cnz_S cnz_DPart) x.list
  have h1 := (cnz_S cnz_I) x.put
  unfold cvDL02B szDL02B
  try simp only [szI, szB, szY] at *
  omega
theorem cvz_DL02B (x : DL02B) : cvDL02B x ≤ 64 * (1 + szDL02B x) := by have := cvw_DL02B x; omega
noncomputable def mkDL02B (x : DL02B) (k : Int) : DL02B := ⟨(mkL cnDPart mkDPart) x.list k, (mkL cnI mkI) x.put (k + ((sumL cnDPart) x.list : Int)), mkI x.drop (k + ((sumL cnDPart) x.list : Int) + ((sumL cnI) x.put : Int))⟩
noncomputable def mvDL02B (x : DL02B) (k : Int) : DL02B := ⟨(mkL cnDPart mkDPart) x.list k, (mkL cnI mkI) x.put (k + ((sumL cnDPart) x.list : Int)), x.drop⟩
def smDL04Cur (x : DL04Cur) : Prop := (smL smDPart) x.o ∧ smI x.at_ ∧ smI x.done
def wfDL04Cur (x : DL04Cur) : Prop := (wfL wfDPart) x.o ∧ wfI x.at_ ∧ wfI x.done
def szDL04Cur (x : DL04Cur) : Nat := (lenL szDPart) x.o
def cnDL04Cur (x : DL04Cur) : Nat := (sumL cnDPart) x.o + cnI x.at_ + cnI x.done
def cvDL04Cur (x : DL04Cur) : Nat := (sumL cnDPart) x.o
theorem smz_DL04Cur (x : DL04Cur) (h : szDL04Cur x ≤ 1099511627776) : smDL04Cur x := by unfold szDL04Cur at h; exact ⟨(smz_L smz_DPart) _ (by first | omega | exact Nat.zero_le _), smz_I _ (by first | omega | exact Nat.zero_le _), smz_I _ (by first | omega | exact Nat.zero_le _)⟩
theorem cnw_DL04Cur (x : DL04Cur) : cnDL04Cur x ≤ 2 + 64 * szDL04Cur x := by
  have h0 := (cnz_S cnz_DPart) x.o
  unfold cnDL04Cur szDL04Cur; (try simp only [cnI, cnB, cnT, cnY, szI, szB, szY] at *); omega
theorem cnz_DL04Cur (x : DL04Cur) : cnDL04Cur x ≤ 64 * (1 + szDL04Cur x) := by have := cnw_DL04Cur x; omega
theorem cvw_DL04Cur (x : DL04Cur) : cvDL04Cur x ≤ 64 * szDL04Cur x := by
  have h0 := (cnz_S cnz_DPart) x.o
  unfold cvDL04Cur szDL04Cur
  try simp only [szI, szB, szY] at *
  omega
theorem cvz_DL04Cur (x : DL04Cur) : cvDL04Cur x ≤ 64 * (1 + szDL04Cur x) := by have := cvw_DL04Cur x; omega
noncomputable def mkDL04Cur (x : DL04Cur) (k : Int) : DL04Cur := ⟨(mkL cnDPart mkDPart) x.o k, mkI x.at_ (k + ((sumL cnDPart) x.o : Int)), mkI x.done (k + ((sumL cnDPart) x.o : Int) + 1)⟩
noncomputable def mvDL04Cur (x : DL04Cur) (k : Int) : DL04Cur := ⟨(mkL cnDPart mkDPart) x.o k, x.at_, x.done⟩
end Go.Proofs.YtlgmikaemfbmaaaGreat
