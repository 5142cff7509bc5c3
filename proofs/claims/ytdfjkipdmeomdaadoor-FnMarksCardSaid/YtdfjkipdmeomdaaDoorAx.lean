/- What is counted in data of this program. No condition. -/
import Derived.Test.YtdfjkipdmeomdaaDoorTy3
import Derived.Test.YtdfjkipdmeomdaaDoorMl
namespace Go.Proofs.YtdfjkipdmeomdaaDoor
def smDMark (x : DMark) : Prop := smI x.id ∧ smI x.from_ ∧ smI x.to
def wfDMark (x : DMark) : Prop := wfI x.id ∧ wfI x.from_ ∧ wfI x.to
def szDMark (x : DMark) : Nat := 0
def cnDMark (x : DMark) : Nat := cnI x.id + cnI x.from_ + cnI x.to
def cvDMark (x : DMark) : Nat := 0
theorem smz_DMark (x : DMark) (h : szDMark x ≤ 1099511627776) : smDMark x := by unfold szDMark at h; exact ⟨smz_I _ (by first | omega | exact Nat.zero_le _), smz_I _ (by first | omega | exact Nat.zero_le _), smz_I _ (by first | omega | exact Nat.zero_le _)⟩
theorem cnw_DMark (x : DMark) : cnDMark x ≤ 3 + 64 * szDMark x := by
  unfold cnDMark szDMark; (try simp only [cnI, cnB, cnT, cnY, szI, szB, szY] at *); omega
theorem cnz_DMark (x : DMark) : cnDMark x ≤ 64 * (1 + szDMark x) := by have := cnw_DMark x; omega
theorem cvw_DMark (x : DMark) : cvDMark x ≤ 64 * szDMark x := by
  unfold cvDMark szDMark
  try simp only [szI, szB, szY] at *
  omega
theorem cvz_DMark (x : DMark) : cvDMark x ≤ 64 * (1 + szDMark x) := by have := cvw_DMark x; omega
noncomputable def mkDMark (x : DMark) (k : Int) : DMark := ⟨mkI x.id k, mkI x.from_ (k + 1), mkI x.to (k + 1 + 1)⟩
noncomputable def mvDMark (x : DMark) (k : Int) : DMark := ⟨x.id, x.from_, x.to⟩
def smDL01Cur (x : DL01Cur) : Prop := (smL smY) x.b ∧ smI x.i ∧ smI x.h
def wfDL01Cur (x : DL01Cur) : Prop := (wfL wfY) x.b ∧ wfI x.i ∧ wfI x.h
def szDL01Cur (x : DL01Cur) : Nat := (lenL szY) x.b
def cnDL01Cur (x : DL01Cur) : Nat := (sumL cnY) x.b + cnI x.i + cnI x.h
def cvDL01Cur (x : DL01Cur) : Nat := (sumL cnY) x.b
theorem smz_DL01Cur (x : DL01Cur) (h : szDL01Cur x ≤ 1099511627776) : smDL01Cur x := by unfold szDL01Cur at h; exact ⟨(smz_L smz_Y) _ (by first | omega | exact Nat.zero_le _), smz_I _ (by first | omega | exact Nat.zero_le _), smz_I _ (by first | omega | exact Nat.zero_le _)⟩
theorem cnw_DL01Cur (x : DL01Cur) : cnDL01Cur x ≤ 2 + 64 * szDL01Cur x := by
  have h0 := (cnz_S cnz_Y) x.b
  unfold cnDL01Cur szDL01Cur; (try simp only [cnI, cnB, cnT, cnY, szI, szB, szY] at *); omega
theorem cnz_DL01Cur (x : DL01Cur) : cnDL01Cur x ≤ 64 * (1 + szDL01Cur x) := by have := cnw_DL01Cur x; omega
theorem cvw_DL01Cur (x : DL01Cur) : cvDL01Cur x ≤ 64 * szDL01Cur x := by
  have h0 := (cnz_S cnz_Y) x.b
  unfold cvDL01Cur szDL01Cur
  try simp only [szI, szB, szY] at *
  omega
theorem cvz_DL01Cur (x : DL01Cur) : cvDL01Cur x ≤ 64 * (1 + szDL01Cur x) := by have := cvw_DL01Cur x; omega
noncomputable def mkDL01Cur (x : DL01Cur) (k : Int) : DL01Cur := ⟨(mkL cnY mkY) x.b k, mkI x.i (k + ((sumL cnY) x.b : Int)), mkI x.h (k + ((sumL cnY) x.b : Int) + 1)⟩
noncomputable def mvDL01Cur (x : DL01Cur) (k : Int) : DL01Cur := ⟨(mkL cnY mkY) x.b k, x.i, x.h⟩
def smDPart (x : DPart) : Prop := smI x.kind ∧ smI x.n ∧ (smL smI) x.signs
def wfDPart (x : DPart) : Prop := wfI x.kind ∧ wfI x.n ∧ (wfL wfI) x.signs
def szDPart (x : DPart) : Nat := (lenL szI) x.signs
def cnDPart (x : DPart) : Nat := cnI x.kind + cnI x.n + (sumL cnI) x.signs
def cvDPart (x : DPart) : Nat := (sumL cnI) x.signs
theorem smz_DPart (x : DPart) (h : szDPart x ≤ 1099511627776) : smDPart x := by unfold szDPart at h; exact ⟨smz_I _ (by first | omega | exact Nat.zero_le _), smz_I _ (by first | omega | exact Nat.zero_le _), (smz_L smz_I) _ (by first | omega | exact Nat.zero_le _)⟩
theorem cnw_DPart (x : DPart) : cnDPart x ≤ 2 + 64 * szDPart x := by
  have h2 := (cnz_S cnz_I) x.signs
  unfold cnDPart szDPart; (try simp only [cnI, cnB, cnT, cnY, szI, szB, szY] at *); omega
theorem cnz_DPart (x : DPart) : cnDPart x ≤ 64 * (1 + szDPart x) := by have := cnw_DPart x; omega
theorem cvw_DPart (x : DPart) : cvDPart x ≤ 64 * szDPart x := by
  have h0 := (cnz_S cnz_I) x.signs
  unfold cvDPart szDPart
  try simp only [szI, szB, szY] at *
  omega
theorem cvz_DPart (x : DPart) : cvDPart x ≤ 64 * (1 + szDPart x) := by have := cvw_DPart x; omega
noncomputable def mkDPart (x : DPart) (k : Int) : DPart := ⟨mkI x.kind k, mkI x.n (k + 1), (mkL cnI mkI) x.signs (k + 1 + 1)⟩
noncomputable def mvDPart (x : DPart) (k : Int) : DPart := ⟨x.kind, x.n, (mkL cnI mkI) x.signs k⟩
end Go.Proofs.YtdfjkipdmeomdaaDoor
