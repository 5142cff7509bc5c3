/- Facts on the table of types. No condition. -/
import Derived.Test.YthnnhoabdhhkaaaProg
import Derived.Test.YthnnhoabdhhkaaaDeep
namespace Go.Proofs.Ythnnhoabdhhkaaa
open Go.RowKit
theorem Try_mixed : Try.prog.follows .mixedOrders = true := by rfl
def fM (m : Mk) : List Value := [.int .i64 m.id, .int .i64 m.lo, .int .i64 m.hi]
theorem sz2 : Sz Try.prog 2 1 8 (.int .i64 0) := ⟨by kernel_rfl, rfl, by decide⟩
theorem sz3 : Sz Try.prog 3 1 8 (.int .i64 0) := ⟨by kernel_rfl, rfl, by decide⟩
theorem sz4 : Sz Try.prog 4 1 1 (.bool false) := ⟨by kernel_rfl, rfl, by decide⟩
theorem sz5 : Sz Try.prog 5 1 1 (.int .u8 0) := ⟨by kernel_rfl, rfl, by decide⟩
theorem sz9 : Sz Try.prog 9 1 16 (.string ByteArray.empty) := ⟨by kernel_rfl, rfl, by decide⟩
theorem sz12 : Sz Try.prog 12 1 8 (.int .u64 0) := ⟨by kernel_rfl, rfl, by decide⟩
theorem sz13 : Sz Try.prog 13 2 24 (.agg #[.string ByteArray.empty, .int .u64 0]) := ⟨by kernel_rfl, rfl, by decide⟩
theorem sz19 : Sz Try.prog 19 1 8 (.agg #[.pointer none]) := ⟨by kernel_rfl, rfl, by decide⟩
theorem sz21 : Sz Try.prog 21 1 4 (.int .i32 0) := ⟨by kernel_rfl, rfl, by decide⟩
theorem sz22 : Sz Try.prog 22 1 24 (.slice none 0 0) := ⟨by kernel_rfl, rfl, by decide⟩
theorem sz28 : Sz Try.prog 28 1 24 (.slice none 0 0) := ⟨by kernel_rfl, rfl, by decide⟩
theorem sz29 : Sz Try.prog 29 3 56 (.agg #[.int .i64 0, .slice none 0 0, .slice none 0 0]) := ⟨by kernel_rfl, rfl, by decide⟩
theorem sz30 : Sz Try.prog 30 3 56 (.agg #[.int .i64 0, .slice none 0 0, .slice none 0 0]) := ⟨by kernel_rfl, rfl, by decide⟩
theorem sz33 : Sz Try.prog 33 1 24 (.slice none 0 0) := ⟨by kernel_rfl, rfl, by decide⟩
theorem sz34 : Sz Try.prog 34 3 56 (.agg #[.int .i64 0, .slice none 0 0, .slice none 0 0]) := ⟨by kernel_rfl, rfl, by decide⟩
theorem sz35 : Sz Try.prog 35 3 56 (.agg #[.int .i64 0, .slice none 0 0, .slice none 0 0]) := ⟨by kernel_rfl, rfl, by decide⟩
theorem sz38 : Sz Try.prog 38 1 24 (.slice none 0 0) := ⟨by kernel_rfl, rfl, by decide⟩
theorem sz41 : Sz Try.prog 41 1 24 (.slice none 0 0) := ⟨by kernel_rfl, rfl, by decide⟩
theorem sz45 : Sz Try.prog 45 1 24 (.slice none 0 0) := ⟨by kernel_rfl, rfl, by decide⟩
theorem sz47 : Sz Try.prog 47 1 24 (.slice none 0 0) := ⟨by kernel_rfl, rfl, by decide⟩
theorem sz54 : Sz Try.prog 54 1 24 (.slice none 0 0) := ⟨by kernel_rfl, rfl, by decide⟩
theorem sz56 : Sz Try.prog 56 1 24 (.slice none 0 0) := ⟨by kernel_rfl, rfl, by decide⟩
theorem sz66 : Sz Try.prog 66 1 24 (.slice none 0 0) := ⟨by kernel_rfl, rfl, by decide⟩
theorem sz82 : Sz Try.prog 82 3 40 (.agg #[.int .i64 0, .int .i64 0, .slice none 0 0]) := ⟨by kernel_rfl, rfl, by decide⟩
theorem sz83 : Sz Try.prog 83 3 40 (.agg #[.int .i64 0, .int .i64 0, .slice none 0 0]) := ⟨by kernel_rfl, rfl, by decide⟩
theorem sz91 : Sz Try.prog 91 3 40 (.agg #[.int .i64 0, .int .i64 0, .slice none 0 0]) := ⟨by kernel_rfl, rfl, by decide⟩
theorem sz95 : Sz Try.prog 95 3 24 (.agg #[.int .i64 0, .int .i64 0, .int .i64 0]) := ⟨by kernel_rfl, rfl, by decide⟩
theorem sz96 : Sz Try.prog 96 3 24 (.agg #[.int .i64 0, .int .i64 0, .int .i64 0]) := ⟨by kernel_rfl, rfl, by decide⟩
theorem sz99 : Sz Try.prog 99 3 24 (.agg #[.int .i64 0, .int .i64 0, .int .i64 0]) := ⟨by kernel_rfl, rfl, by decide⟩
theorem sz103 : Sz Try.prog 103 3 40 (.agg #[.int .i64 0, .int .i64 0, .slice none 0 0]) := ⟨by kernel_rfl, rfl, by decide⟩
theorem sz104 : Sz Try.prog 104 3 40 (.agg #[.int .i64 0, .int .i64 0, .slice none 0 0]) := ⟨by kernel_rfl, rfl, by decide⟩
theorem sz105 : Sz Try.prog 105 3 40 (.agg #[.int .i64 0, .int .i64 0, .slice none 0 0]) := ⟨by kernel_rfl, rfl, by decide⟩
theorem sz106 : Sz Try.prog 106 3 40 (.agg #[.int .i64 0, .int .i64 0, .slice none 0 0]) := ⟨by kernel_rfl, rfl, by decide⟩
theorem sz116 : Sz Try.prog 116 3 40 (.agg #[.slice none 0 0, .int .i64 0, .int .i64 0]) := ⟨by kernel_rfl, rfl, by decide⟩
theorem sz117 : Sz Try.prog 117 3 40 (.agg #[.slice none 0 0, .int .i64 0, .int .i64 0]) := ⟨by kernel_rfl, rfl, by decide⟩
theorem sz129 : Sz Try.prog 129 1 24 (.slice none 0 0) := ⟨by kernel_rfl, rfl, by decide⟩
theorem sz132 : Sz Try.prog 132 3 56 (.agg #[.slice none 0 0, .slice none 0 0, .int .i64 0]) := ⟨by kernel_rfl, rfl, by decide⟩
theorem sz133 : Sz Try.prog 133 3 56 (.agg #[.slice none 0 0, .slice none 0 0, .int .i64 0]) := ⟨by kernel_rfl, rfl, by decide⟩
theorem sz148 : Sz Try.prog 148 1 8 (.int .u64 0) := ⟨by kernel_rfl, rfl, by decide⟩
theorem sz157 : Sz Try.prog 157 1 4 (.int .u32 0) := ⟨by kernel_rfl, rfl, by decide⟩
def oP (p : PV) : List Own := [oF p.sv.v 3 1 fI p.sl]
theorem hroP : ∀ (w : World) (x : PV), (oStar (oP x)).ok w → ∀ r ∈ iP x, r.2.rd (oStar (oP x)).fp w r.1 := fun w x h => forall_one ((dFs 1 fI x.sl).mono (fun b hb => ⟨⟨_, (.head _), hb⟩, rfl⟩) (Of.rdS (h.1 _ (.head _)) (fun _ => rfl)))
theorem zP : ∀ o ∈ oP pv0, (∀ w, o.ok w) ∧ ∀ b, ¬ o.fp b := forall_one (oF_nil fI _ _)
def oO (p : OV) : List Own := [oF p.sv.v 83 3 fP p.l, oBag oP p.l]
theorem hroO : ∀ (w : World) (x : OV), (oStar (oO x)).ok w → ∀ r ∈ iO x, r.2.rd (oStar (oO x)).fp w r.1 := fun w x h => forall_one ((dDeep 3 fP iP x.l).mono (fun b hb => ⟨star_sub (.head _) (.tail _ (.head _)) hb, rfl⟩) (Deep.ofOwn (h.1 _ (.head _)) (h.1 _ (.tail _ (.head _))) (fun _ => rfl) (hroP w)))
theorem zO : ∀ o ∈ oO ov0, (∀ w, o.ok w) ∧ ∀ b, ¬ o.fp b := forall_cons (oF_nil fP _ _) (forall_one (oBag_nil oP))
def oE (p : EV) : List Own := [oF p.sv.v 83 3 fP p.l, oBag oP p.l]
theorem hroE : ∀ (w : World) (x : EV), (oStar (oE x)).ok w → ∀ r ∈ iE x, r.2.rd (oStar (oE x)).fp w r.1 := fun w x h => forall_one ((dDeep 3 fP iP x.l).mono (fun b hb => ⟨star_sub (.head _) (.tail _ (.head _)) hb, rfl⟩) (Deep.ofOwn (h.1 _ (.head _)) (h.1 _ (.tail _ (.head _))) (fun _ => rfl) (hroP w)))
theorem zE : ∀ o ∈ oE ev0, (∀ w, o.ok w) ∧ ∀ b, ¬ o.fp b := forall_cons (oF_nil fP _ _) (forall_one (oBag_nil oP))
def oS (p : SV) : List Own := [oF p.uv.v 41 1 fO p.ul, oBag oO p.ul, oF p.rv.v 41 1 fO p.rl, oBag oO p.rl]
theorem hroS : ∀ (w : World) (x : SV), (oStar (oS x)).ok w → ∀ r ∈ iS x, r.2.rd (oStar (oS x)).fp w r.1 := fun w x h => forall_two ((dDeep 1 fO iO x.ul).mono (fun b hb => ⟨star_sub (.head _) (.tail _ (.head _)) hb, rfl⟩) (Deep.ofOwn (h.1 _ (.head _)) (h.1 _ (.tail _ (.head _))) (fun _ => rfl) (hroO w))) ((dDeep 1 fO iO x.rl).mono (fun b hb => ⟨star_sub (.tail _ (.tail _ (.head _))) (.tail _ (.tail _ (.tail _ (.head _)))) hb, rfl⟩) (Deep.ofOwn (h.1 _ (.tail _ (.tail _ (.head _)))) (h.1 _ (.tail _ (.tail _ (.tail _ (.head _))))) (fun _ => rfl) (hroO w)))
theorem zS : ∀ o ∈ oS st0, (∀ w, o.ok w) ∧ ∀ b, ¬ o.fp b := forall_cons (oF_nil fO _ _) (forall_cons (oBag_nil oO) (forall_cons (oF_nil fO _ _) (forall_one (oBag_nil oO))))
theorem opensPart_g {P : Program} {t : TypeId} {f0 f1 f2 : Field} (ht : P.underlying t = some (.struct #[f0, f1, f2])) (hc : P.cellsOf t = 3) (o0 : f0.offset = 0) (o1 : f1.offset = 1) (o2 : f2.offset = 2) (c0 : P.cellsOf f0.type = 1) (c1 : P.cellsOf f1.type = 1) (c2 : P.cellsOf f2.type = 1) (p0 : Opens P f0.type (fun n : Int => dFl (fI n)) 1) (p1 : Opens P f1.type (fun n : Int => dFl (fI n)) 1) (p2 : Opens P f2.type (fun l : List Int => dFs 1 fI l) 1) : Opens P t (dEl fP iP) 3 := by
  intro H enc w base spare held fuel cs x h
  obtain ⟨xs, n, _, _, hl, hlen, hf⟩ := DataW.trod_struct ht h
  rw [hc] at hl
  match cs, hl with
  | [v0, v1, v2], _ =>
    have hl3 : xs.length = 3 := hlen
    have g0 := hf 0 f0 rfl
    have g1 := hf 1 f1 rfl
    have g2 := hf 2 f2 rfl
    rw [List.getElem?_eq_getElem (by omega)] at g0 g1 g2
    obtain ⟨_, y0, e0⟩ := p0 enc w base spare held n _ _ g0
    rw [o0, c0] at e0
    obtain rfl : v0 = .int .i64 y0 := (List.cons.inj e0).1
    obtain ⟨_, y1, e1⟩ := p1 enc w base spare held n _ _ g1
    rw [o1, c1] at e1
    obtain rfl : v1 = .int .i64 y1 := (List.cons.inj e1).1
    obtain ⟨_, y2, e2⟩ := p2 enc w base spare held n _ _ g2
    rw [o2, c2] at e2
    replace e2 : (dFs 1 fI y2).rd _ w [v2] := e2
    obtain ⟨s2, rfl⟩ := Fs.sv e2
    exact ⟨rfl, ⟨y0, y1, s2, y2⟩, rfl, forall_one e2⟩
theorem opensPart : Opens Try.prog 91 (dEl fP iP) 3 := opensPart_g Try.underlying91 (by kernel_rfl) rfl rfl rfl (by kernel_rfl) (by kernel_rfl) (by kernel_rfl) (opens_int Try.underlying3) (opens_int Try.underlying3) (opens_ints Try.underlying22 Try.underlying3 (by kernel_rfl))
theorem opensEntry_g {P : Program} {t : TypeId} {f0 f1 f2 : Field} (ht : P.underlying t = some (.struct #[f0, f1, f2])) (hc : P.cellsOf t = 3) (o0 : f0.offset = 0) (o1 : f1.offset = 1) (o2 : f2.offset = 2) (c0 : P.cellsOf f0.type = 1) (c1 : P.cellsOf f1.type = 1) (c2 : P.cellsOf f2.type = 1) (p0 : Opens P f0.type (fun n : Int => dFl (fI n)) 1) (p1 : Opens P f1.type (fun n : Int => dFl (fI n)) 1) (p2 : Opens P f2.type (fun l : List PV => dDeep 3 fP iP l) 1) : Opens P t (dEl fE iE) 3 := by
  intro H enc w base spare held fuel cs x h
  obtain ⟨xs, n, _, _, hl, hlen, hf⟩ := DataW.trod_struct ht h
  rw [hc] at hl
  match cs, hl with
  | [v0, v1, v2], _ =>
    have hl3 : xs.length = 3 := hlen
    have g0 := hf 0 f0 rfl
    have g1 := hf 1 f1 rfl
    have g2 := hf 2 f2 rfl
    rw [List.getElem?_eq_getElem (by omega)] at g0 g1 g2
    obtain ⟨_, y0, e0⟩ := p0 enc w base spare held n _ _ g0
    rw [o0, c0] at e0
    obtain rfl : v0 = .int .i64 y0 := (List.cons.inj e0).1
    obtain ⟨_, y1, e1⟩ := p1 enc w base spare held n _ _ g1
    rw [o1, c1] at e1
    obtain rfl : v1 = .int .i64 y1 := (List.cons.inj e1).1
    obtain ⟨_, y2, e2⟩ := p2 enc w base spare held n _ _ g2
    rw [o2, c2] at e2
    replace e2 : (dDeep 3 fP iP y2).rd _ w [v2] := e2
    obtain ⟨s2, rfl⟩ := Fs.sv (Deep.fl e2)
    exact ⟨rfl, ⟨y0, y1, s2, y2⟩, rfl, forall_one e2⟩
theorem opensEntry : Opens Try.prog 104 (dEl fE iE) 3 := opensEntry_g Try.underlying104 (by kernel_rfl) rfl rfl rfl (by kernel_rfl) (by kernel_rfl) (by kernel_rfl) (opens_int Try.underlying3) (opens_int Try.underlying3) (opens_deep (k := 3) Try.underlying38 (by kernel_rfl) (by decide) opensPart)
theorem opensStory_g {P : Program} {t : TypeId} {f0 f1 f2 : Field} (ht : P.underlying t = some (.struct #[f0, f1, f2])) (hc : P.cellsOf t = 3) (o0 : f0.offset = 0) (o1 : f1.offset = 1) (o2 : f2.offset = 2) (c0 : P.cellsOf f0.type = 1) (c1 : P.cellsOf f1.type = 1) (c2 : P.cellsOf f2.type = 1) (p0 : Opens P f0.type (fun n : Int => dFl (fI n)) 1) (p1 : Opens P f1.type (fun l : List OV => dDeep 1 fO iO l) 1) (p2 : Opens P f2.type (fun l : List OV => dDeep 1 fO iO l) 1) : Opens P t (dEl fS iS) 3 := by
  intro H enc w base spare held fuel cs x h
  obtain ⟨xs, n, _, _, hl, hlen, hf⟩ := DataW.trod_struct ht h
  rw [hc] at hl
  match cs, hl with
  | [v0, v1, v2], _ =>
    have hl3 : xs.length = 3 := hlen
    have g0 := hf 0 f0 rfl
    have g1 := hf 1 f1 rfl
    have g2 := hf 2 f2 rfl
    rw [List.getElem?_eq_getElem (by omega)] at g0 g1 g2
    obtain ⟨_, y0, e0⟩ := p0 enc w base spare held n _ _ g0
    rw [o0, c0] at e0
    obtain rfl : v0 = .int .i64 y0 := (List.cons.inj e0).1
    obtain ⟨_, y1, e1⟩ := p1 enc w base spare held n _ _ g1
    rw [o1, c1] at e1
    replace e1 : (dDeep 1 fO iO y1).rd _ w [v1] := e1
    obtain ⟨s1, rfl⟩ := Fs.sv (Deep.fl e1)
    obtain ⟨_, y2, e2⟩ := p2 enc w base spare held n _ _ g2
    rw [o2, c2] at e2
    replace e2 : (dDeep 1 fO iO y2).rd _ w [v2] := e2
    obtain ⟨s2, rfl⟩ := Fs.sv (Deep.fl e2)
    exact ⟨rfl, ⟨y0, s1, y1, s2, y2⟩, rfl, forall_two e1 e2⟩
theorem opensStory : Opens Try.prog 30 (dEl fS iS) 3 := opensStory_g Try.underlying30 (by kernel_rfl) rfl rfl rfl (by kernel_rfl) (by kernel_rfl) (by kernel_rfl) (opens_int Try.underlying3) (opens_deep (k := 1) Try.underlying28 (by kernel_rfl) (by decide) (opens_ov (opens_deep (k := 3) Try.underlying38 (by kernel_rfl) (by decide) opensPart))) (opens_deep (k := 1) Try.underlying28 (by kernel_rfl) (by decide) (opens_ov (opens_deep (k := 3) Try.underlying38 (by kernel_rfl) (by decide) opensPart)))
end Go.Proofs.Ythnnhoabdhhkaaa
