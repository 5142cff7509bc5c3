/- A document read from bytes, and written again. No condition. -/
import Derived.Test.YtmcakofnolmhpaaDe
namespace Go.Proofs.Ytmcakofnolmhpaa

theorem Out.lst {T : Type} {b b1 b2 : List UInt8} {a a1 a2 : Int} {d d1 d2 : Bool} {c : Ps Int} {p : Ps T} {S : Int → Prop} {R Q : List T → Prop} {x : Int} {l : List T}
    (h : Out b a d (c a) S x b1 a1 d1) (k : Out b a1 d1 (many p x.toNat a1) R l b2 a2 d2) (hf : R l → Q l) : Out b a d (lst c p a) Q l b2 a2 d2 := by
  have h1 := Out.seq (q := fun n => many p n.toNat) h k
  exact Out.map Prod.snd h1 fun z => hf z.2
def szD (b : List UInt8) (z : D4) : Prop := ((z.1.1.2.length : Int) ≤ b.length + 1) ∧ ((z.1.2.length : Int) ≤ b.length + 1 ∧ ∀ e ∈ z.1.2, szE b e) ∧ (z.2.length : Int) ≤ b.length + 1
theorem sm_D {b : List UInt8} (hb : b.length ≤ 1048576) {name : ByteArray} (hn : name.size ≤ 1048576) {z : D4} (h : szD b z) : smDDoc (mkD name z) := by
  obtain ⟨h1, ⟨h2, h3⟩, h4⟩ := h
  refine ⟨?_, trivial, ⟨?_, fun _ _ => trivial⟩, ⟨?_, fun e he => ?_⟩, ⟨?_, fun s _ => ⟨trivial, trivial, trivial⟩⟩⟩
  · unfold smT; show name.size ≤ _; omega
  · show z.1.1.2.length ≤ _; omega
  · show z.1.2.length ≤ _; omega
  · obtain ⟨g1, g2⟩ := h3 e he
    refine ⟨trivial, trivial, ⟨by omega, fun p hp => ?_⟩⟩
    have g3 := g2 p hp
    unfold szP at g3
    exact ⟨trivial, trivial, by omega, fun _ _ => trivial⟩
  · show z.2.length ≤ _; omega
noncomputable def emp : DDoc := ⟨ByteArray.empty, 0, [], [], []⟩
noncomputable def back (name : ByteArray) (b : List UInt8) (o : Option (D4 × Int)) : DDoc × Bool := match o with
  | some (z, _) => if okDoc (mkD name z) = true ∧ encs (docN (mkD name z)) = b then (mkD name z, true) else (emp, false)
  | none => (emp, false)
theorem back_s (name : ByteArray) (b : List UInt8) (z : D4) (k : Int) : back name b (some (z, k)) = if okDoc (mkD name z) = true ∧ encs (docN (mkD name z)) = b then (mkD name z, true) else (emp, false) := rfl
theorem okDoc_seen {d : DDoc} (h : okDoc d = true) : d.seen.length ≤ 8 := by
  have := seen_len _ _ _ (okDoc_all h).2.2.2.2 ⟨by simp, by simp⟩
  simp only [Option.getD_none] at this
  omega
theorem arr_eq (a b : List UInt8) : ((⟨a.toArray⟩ : ByteArray) = ⟨b.toArray⟩) ↔ a = b := by
  constructor
  · intro h
    have : a.toArray = b.toArray := by injection h
    simpa using this
  · intro h; rw [h]
theorem i_tail {b : List UInt8} (hb : b.length ≤ 1048576) {name : ByteArray} (hn : name.size ≤ 1048576) {z : D4} {b' : List UInt8} {a : Int} {bad : Bool} {p : Option (D4 × Int)} (h : Out b 0 false p (szD b) z b' a bad) :
    (Option.bind (x_impl_DocBytes (mkD name z)) fun r422 => Option.bind (bif bad then (some true) else (some (!r422.2))) fun c437 => Option.bind (bif c437 then (some true) else (Option.bind (x_bytes_Equal r422.1 b) fun r455 => some (!r455))) fun c444 => bif c444 then (some (emp, false)) else (some (mkD name z, true))) = some (back name b p) := by
  have hs := sm_D hb hn h.sz
  have ok := h.ok rfl
  cases hk : okDoc (mkD name z) with
  | false =>
    have e : x_impl_DocBytes (mkD name z) = some ([], false) := by unfold x_impl_DocBytes; rw [i_DocOk _ hs, hk]; rfl
    rw [e, Option.bind_some]
    have hb2 : back name b p = (emp, false) := by
      cases p with
      | none => rfl
      | some u =>
        obtain ⟨z', k⟩ := u
        simp only at ok
        rw [← ok.1, back_s, if_neg (fun k => by rw [hk] at k; cases k.1)]
    rw [hb2]
    cases bad <;> rfl
  | true =>
    have e := i_DocBytes hs hk (by have := okDoc_seen hk; omega)
    rw [e, Option.bind_some]
    simp only [Bool.not_true]
    cases p with
    | none => simp only at ok; rw [ok]; rfl
    | some u =>
      obtain ⟨z', k⟩ := u
      simp only at ok
      rw [ok.2.2]
      unfold x_bytes_Equal
      rw [← ok.1, back_s, hk]
      simp only [cd_F, Option.bind_some, true_and]
      by_cases hq : encs (docN (mkD name z)) = b
      · rw [if_pos hq, decide_eq_true ((arr_eq _ _).2 hq)]; rfl
      · rw [if_neg hq, decide_eq_false (fun k => hq ((arr_eq _ _).1 k))]; rfl
theorem s_tail {b : List UInt8} (hb : b.length ≤ 1048576) {name : ByteArray} (hn : name.size ≤ 1048576) {z : D4} {b' : List UInt8} {a : Int} {bad : Bool} {p : Option (D4 × Int)} (h : Out b 0 false p (szD b) z b' a bad) :
    (Option.bind (x_spec_DocBytes (mkD name z)) fun r432 => Option.bind (bif bad then (some true) else (some (!r432.2))) fun c447 => Option.bind (bif c447 then (some true) else (some (!decide ((⟨r432.1.toArray⟩ : ByteArray) = (⟨b.toArray⟩ : ByteArray))))) fun c454 => bif c454 then (some (emp, false)) else (some (mkD name z, true))) = some (back name b p) := by
  have hs := sm_D hb hn h.sz
  have ok := h.ok rfl
  cases hk : okDoc (mkD name z) with
  | false =>
    have e : x_spec_DocBytes (mkD name z) = some ([], false) := by unfold x_spec_DocBytes; rw [s_DocOk _ hs, hk]; rfl
    rw [e, Option.bind_some]
    have hb2 : back name b p = (emp, false) := by
      cases p with
      | none => rfl
      | some u =>
        obtain ⟨z', k⟩ := u
        simp only at ok
        rw [← ok.1, back_s, if_neg (fun k => by rw [hk] at k; cases k.1)]
    rw [hb2]
    cases bad <;> rfl
  | true =>
    have e := s_DocBytes hs hk (by have := okDoc_seen hk; omega)
    rw [e, Option.bind_some]
    simp only [Bool.not_true]
    cases p with
    | none => simp only at ok; rw [ok]; rfl
    | some u =>
      obtain ⟨z', k⟩ := u
      simp only at ok
      rw [ok.2.2]
      rw [← ok.1, back_s, hk]
      simp only [cd_F, Option.bind_some, true_and]
      by_cases hq : encs (docN (mkD name z)) = b
      · rw [if_pos hq, decide_eq_true ((arr_eq _ _).2 hq)]; rfl
      · rw [if_neg hq, decide_eq_false (fun k => hq ((arr_eq _ _).1 k))]; rfl
theorem i_BytesDoc {b : List UInt8} (hb : b.length ≤ 1048576) {name : ByteArray} (hn : name.size ≤ 1048576) : x_impl_BytesDoc name b = some (back name b (docI b 0)) := by
  obtain ⟨x1, r1, p1, o1⟩ := i_num hb (r := ⟨b, 0, false⟩) ⟨rfl, by simp, by simp⟩
  obtain ⟨x2, r2, p2, o2⟩ := i_num hb (r := r1) ⟨o1.eb, o1.lo, o1.hi⟩
  obtain ⟨x3, r3, p3, o3⟩ := i_nums hb (r := r2) ⟨o2.eb, o2.lo, o2.hi⟩ (c := x2) o2.sz
  obtain ⟨x4, r4, p4, o4⟩ := i_num hb (r := r3) ⟨o3.eb, o3.lo, o3.hi⟩
  obtain ⟨y5, p5, o5⟩ := i_ents hb (r := r4) r4 ⟨o4.eb, o4.lo, o4.hi⟩ (c := x4) o4.sz
  obtain ⟨x6, r6, p6, o6⟩ := i_num hb (r := ⟨y5.1, y5.2.1, y5.2.2.1⟩) ⟨o5.eb, o5.lo, o5.hi⟩
  obtain ⟨y7, p7, o7⟩ := i_seens hb (r := r6) r6 ⟨o6.eb, o6.lo, o6.hi⟩ (c := x6) o6.sz
  have t : Out b r1.at_ r1.bad (lst (gM b) (gM b) r1.at_) (fun l => (l.length : Int) ≤ b.length + 1) x3 r3.b r3.at_ r3.bad := Out.lst o2 o3 fun z => z.1
  have l : Out b r3.at_ r3.bad (lst (gM b) (entI b) r3.at_) (fun l => (l.length : Int) ≤ b.length + 1 ∧ ∀ e ∈ l, szE b e) y5.2.2.2 y5.1 y5.2.1 y5.2.2.1 := Out.lst o4 o5 fun z => z
  have s : Out b y5.2.1 y5.2.2.1 (lst (gM b) (seenP b) y5.2.1) (fun l => (l.length : Int) ≤ b.length + 1) y7.2.2.2 y7.1 y7.2.1 y7.2.2.1 := Out.lst o6 o7 fun z => z.1
  have all : Out b 0 false (docI b 0) (szD b) (((x1, x3), y5.2.2.2), y7.2.2.2) y7.1 y7.2.1 y7.2.2.1 :=
    Out.weak (Out.seq (q := fun _ => lst (gM b) (seenP b)) (Out.seq (q := fun _ => lst (gM b) (entI b)) (Out.seq (q := fun _ => lst (gM b) (gM b)) o1 t) l) s) fun z => ⟨z.1.1.2, z.1.2, z.2⟩
  unfold x_impl_BytesDoc
  rw [p1, Option.bind_some]
  simp only
  rw [p2, Option.bind_some]
  simp only
  rw [p3, Option.bind_some]
  simp only
  rw [p4, Option.bind_some]
  simp only
  rw [p5, Option.bind_some, p6, Option.bind_some]
  simp only
  rw [p7, Option.bind_some]
  have e := i_tail hb hn all
  simp only [mkD, emp] at e
  exact e
theorem s_BytesDoc {b : List UInt8} (hb : b.length ≤ 1048576) {name : ByteArray} (hn : name.size ≤ 1048576) : x_spec_BytesDoc name b = some (back name b (docS b 0)) := by
  obtain ⟨x1, r1, p1, o1⟩ := s_get hb (r := ⟨b, 0, false⟩) ⟨rfl, by simp, by simp⟩
  obtain ⟨x2, r2, p2, o2⟩ := s_count hb (r := r1) ⟨o1.eb, o1.lo, o1.hi⟩ (m := 200) (by omega)
  obtain ⟨x3, r3, p3, o3⟩ := s_signs hb (r := r2) ⟨o2.eb, o2.lo, o2.hi⟩ (c := x2) o2.sz.1
  obtain ⟨x4, r4, p4, o4⟩ := s_count hb (r := r3) ⟨o3.eb, o3.lo, o3.hi⟩ (m := 8) (by omega)
  obtain ⟨y5, p5, o5⟩ := s_ents hb (r := r4) ⟨o4.eb, o4.lo, o4.hi⟩ (c := x4) o4.sz.1
  obtain ⟨x6, r6, p6, o6⟩ := s_count hb (r := ⟨y5.1, y5.2.1, y5.2.2.1⟩) ⟨o5.eb, o5.lo, o5.hi⟩ (m := 8) (by omega)
  obtain ⟨y7, p7, o7⟩ := s_seens hb (r := r6) ⟨o6.eb, o6.lo, o6.hi⟩ (c := x6) o6.sz.1
  have t : Out b r1.at_ r1.bad (lst (cntP b 200) (gM b) r1.at_) (fun l => (l.length : Int) ≤ b.length + 1) x3 r3.b r3.at_ r3.bad := Out.lst o2 o3 fun z => z.1
  have l : Out b r3.at_ r3.bad (lst (cntP b 8) (entS b) r3.at_) (fun l => (l.length : Int) ≤ b.length + 1 ∧ ∀ e ∈ l, szE b e) y5.2.2.2 y5.1 y5.2.1 y5.2.2.1 := Out.lst o4 o5 fun z => z
  have s : Out b y5.2.1 y5.2.2.1 (lst (cntP b 8) (seenP b) y5.2.1) (fun l => (l.length : Int) ≤ b.length + 1) y7.2.2.2 y7.1 y7.2.1 y7.2.2.1 := Out.lst o6 o7 fun z => z.1
  have all : Out b 0 false (docS b 0) (szD b) (((x1, x3), y5.2.2.2), y7.2.2.2) y7.1 y7.2.1 y7.2.2.1 :=
    Out.weak (Out.seq (q := fun _ => lst (cntP b 8) (seenP b)) (Out.seq (q := fun _ => lst (cntP b 8) (entS b)) (Out.seq (q := fun _ => lst (cntP b 200) (gM b)) o1 t) l) s) fun z => ⟨z.1.1.2, z.1.2, z.2⟩
  unfold x_spec_BytesDoc
  rw [p1, Option.bind_some]
  simp only
  rw [p2, Option.bind_some]
  simp only
  rw [p3, Option.bind_some]
  simp only
  rw [p4, Option.bind_some]
  simp only
  rw [p5, Option.bind_some, p6, Option.bind_some]
  simp only
  rw [p7, Option.bind_some]
  have e := s_tail hb hn all
  simp only [mkD, emp] at e
  exact e
theorem back_same (name : ByteArray) (b : List UInt8) : back name b (docI b 0) = back name b (docS b 0) := by
  cases hs : docS b 0 with
  | some u =>
    obtain ⟨z, k⟩ := u
    rw [doc_le b 0 z k hs]
  | none =>
    cases hi : docI b 0 with
    | none => rfl
    | some u =>
      obtain ⟨z, k⟩ := u
      have g : ¬ (okDoc (mkD name z) = true ∧ encs (docN (mkD name z)) = b) := fun g => by
        have := doc_ge b name 0 z k hi g.1
        rw [hs] at this
        cases this
      rw [back_s, if_neg g]; rfl
theorem sz_ents : ∀ l : List DEntry, (∀ x ∈ l, okOp x.o = true) → sumL szDEntry l ≤ 800 * l.length
  | [], _ => Nat.le_refl _
  | e :: r, h => by
    have ih := sz_ents r fun x hx => h x (by simp [hx])
    have h1 := okOp_sz (h e (by simp))
    show szDEntry e + sumL szDEntry r ≤ _
    have : szDEntry e = lenL szDPart e.o := by unfold szDEntry; simp []
    simp only [List.length_cons]
    omega
theorem back_sz {name : ByteArray} (hn : name.size ≤ 1048576) (b : List UInt8) (o : Option (D4 × Int)) : szDDoc (back name b o).1 ≤ 1000000000 := by
  have he : szDDoc emp ≤ 1000000000 := by unfold szDDoc emp; simp [szT, lenL, sumL]
  unfold back
  split
  · rename_i z k
    split
    · rename_i g
      obtain ⟨h1, h2, h3, h4, h5⟩ := okDoc_all g.1
      have ht := okText_len h2
      have hs := okDoc_seen g.1
      have hz := sz_ents (mkD name z).list fun x hx => (entN_ok (List.all_eq_true.1 h4 x hx)).1
      have hse : sumL szDSeen (mkD name z).seen = 0 := by
        have key : ∀ l : List DSeen, sumL szDSeen l = 0 := by
          intro l
          induction l with
          | nil => rfl
          | cons x l ih => show szDSeen x + sumL szDSeen l = 0; rw [ih]; rfl
        exact key _
      have hte : sumL szI (mkD name z).text = 0 := by
        have key : ∀ l : List Int, sumL szI l = 0 := by
          intro l
          induction l with
          | nil => rfl
          | cons x l ih => show szI x + sumL szI l = 0; rw [ih]; rfl
        exact key _
      have hnm : szT (mkD name z).name = name.size := rfl
      unfold szDDoc lenL
      simp only
      omega
    · exact he
  · exact he
theorem ex_FnExactBytesDoc (name : ByteArray) (b : List UInt8) (_ : wfT name) (_ : wfL wfY b) (hn : name.size ≤ 1048576) (hb : b.length ≤ 1048576) : ∃ r, x_spec_BytesDoc name b = some r ∧ x_impl_BytesDoc name b = some r ∧ szDDoc r.1 ≤ 1000000000 :=
  ⟨_, s_BytesDoc hb hn, by rw [i_BytesDoc hb hn, back_same], back_sz hn b _⟩
end Go.Proofs.Ytmcakofnolmhpaa
