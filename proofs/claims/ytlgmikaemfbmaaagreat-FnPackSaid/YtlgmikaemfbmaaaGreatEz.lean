/- Documents: the texts of their revisions, and what a change sent to them makes of them. No condition. -/
import Derived.Test.YtlgmikaemfbmaaaGreatMw
import Derived.Test.YtlgmikaemfbmaaaGreatM6
import Derived.Test.YtlgmikaemfbmaaaGreatMx
import Derived.Test.YtlgmikaemfbmaaaGreatM9
namespace Go.Proofs.YtlgmikaemfbmaaaGreat

def runT (l : List DEntry) (t : List Int) : List Int := l.foldl (fun t e => appl e.o t) t
theorem foldE_app : ∀ (a b : List DEntry) (t : List Int), foldE (a ++ b) t = (foldE a t).bind (foldE b)
  | [], b, t => rfl
  | e :: a, b, t => by
    rw [List.cons_append, foldE, foldE]
    split
    · exact foldE_app a b _
    · rfl
theorem foldE_run : ∀ {l : List DEntry} {t u : List Int}, foldE l t = some u → u = runT l t
  | [], t, u, h => by cases h; rfl
  | e :: l, t, u, h => by
    rw [foldE] at h
    split at h
    · exact foldE_run (l := l) (t := appl e.o t) h
    · cases h
theorem foldE_some {l : List DEntry} {t : List Int} (h : (foldE l t).isSome = true) : foldE l t = some (runT l t) := by
  obtain ⟨u, hu⟩ := Option.isSome_iff_exists.1 h
  rw [hu, ← foldE_run hu]
theorem foldE_cut {l : List DEntry} {t : List Int} (h : (foldE l t).isSome = true) (k : Nat) : foldE (l.take k) t = some (runT (l.take k) t) ∧ foldE (l.drop k) (runT (l.take k) t) = some (runT l t) := by
  have h1 : foldE (l.take k ++ l.drop k) t = some (runT l t) := by rw [List.take_append_drop]; exact foldE_some h
  rw [foldE_app] at h1
  cases hc : foldE (l.take k) t with
  | none => rw [hc] at h1; cases h1
  | some u => rw [hc] at h1; obtain rfl := foldE_run hc; exact ⟨rfl, h1⟩
theorem foldE_text : ∀ {l : List DEntry} {t u : List Int}, foldE l t = some u → okText t = true → okText u = true
  | [], t, u, h, ht => by cases h; exact ht
  | e :: l, t, u, h, ht => by
    rw [foldE] at h
    split at h
    · rename_i hc
      simp only [Bool.and_eq_true] at hc
      exact foldE_text (l := l) (t := appl e.o t) h (okText_appl hc.1)
    · cases h
theorem okDoc_some {d : DDoc} (h : okDoc d = true) : (foldE d.list d.text).isSome = true := by
  unfold okDoc at h
  simp only [Bool.and_eq_true] at h
  exact h.2.1
theorem okDoc_name {d : DDoc} (h : okDoc d = true) : okName d.name = true := by
  unfold okDoc at h
  simp only [Bool.and_eq_true] at h
  exact h.1.1.1.1
theorem okDoc_mk {d : DDoc} (h0 : okName d.name = true) (h1 : 0 ≤ d.from_ ∧ d.from_ ≤ 999999000) (h2 : okText d.text = true) (h3 : d.list.length ≤ 8) (h4 : (foldE d.list d.text).isSome = true) (h5 : seenL (d.from_ + d.list.length) d.seen none = true) : okDoc d = true := by
  unfold okDoc
  rw [h0, decide_eq_true h1, h2, decide_eq_true h3, h4, h5]; rfl
theorem head_text {d : DDoc} (h : okDoc d = true) (k : Nat) : okText (runT (d.list.take k) d.text) = true := foldE_text (foldE_cut (okDoc_some h) k).1 (okDoc_all h).2.1
theorem s_HeadRev {d : DDoc} (h : 0 ≤ d.from_ ∧ d.from_ ≤ 999999000) (h2 : d.list.length ≤ 9) : x_spec_HeadRev d = some (d.from_ + d.list.length) := by unfold x_spec_HeadRev; rw [xg_I (by omega) (by omega)]
theorem s_TextAt {d : DDoc} (h : smDDoc d) (hk : okDoc d = true) (rev : Int) : x_spec_TextAt d rev = some (if d.from_ ≤ rev ∧ rev ≤ d.from_ + d.list.length then (runT (d.list.take (rev - d.from_).toNat) d.text, true) else ([], false)) := by
  obtain ⟨h1, h2⟩ := okDoc_get hk
  have htx := okText_len (okDoc_all hk).2.1
  have hf := (foldE_cut (okDoc_some hk) (rev - d.from_).toNat).1
  unfold x_spec_TextAt
  rw [s_DocOk d h, Option.bind_some, hk, Bool.not_true, cd_F, s_HeadRev h1 (by omega), Option.bind_some, s_In, Option.bind_some, Option.bind_some]
  by_cases hc : d.from_ ≤ rev ∧ rev ≤ d.from_ + d.list.length
  · rw [decide_eq_true hc, Bool.not_true, cd_F, xg_of (by omega), xg_I (by omega) (by omega), xg_of ⟨by omega, by omega⟩, if_pos hc, List.drop_zero, List.nil_append]
    rw [each_fold (F := x_spec_TextAt_f0 d rev) (e := fun (s : List Int) => s) (d.list.take (rev - d.from_).toNat) (fun r _ s => (foldE r s).isSome = true) (fun s e => appl e.o s) (fun x r k s hk' hx hP => by
      rw [foldE] at hP
      unfold x_spec_TextAt_f0 x_spec_TextAt_b0
      rw [List.drop_zero, hx, s_Apply]
      cases hq : fits x.o s && okEntry x with
      | false => rw [hq] at hP; cases hP
      | true =>
        rw [hq, if_pos rfl] at hP
        simp only [Bool.and_eq_true] at hq
        rw [hq.1, if_pos rfl, Option.bind_some]
        exact ⟨rfl, hP⟩) d.text (by rw [hf]; rfl)]
    rfl
  · rw [decide_eq_false hc, Bool.not_false, cd_T, if_neg hc]
theorem s_HeadText {d : DDoc} (h : smDDoc d) (hk : okDoc d = true) : x_spec_HeadText d = some (runT d.list d.text) := by
  obtain ⟨h1, h2⟩ := okDoc_get hk
  unfold x_spec_HeadText
  rw [s_HeadRev h1 (by omega), Option.bind_some, s_TextAt h hk, if_pos (by omega), Option.bind_some, show (d.from_ + (d.list.length : Int) - d.from_).toNat = d.list.length by omega, List.take_length]
-- Seen
theorem seenL_iff (H : Int) : ∀ (l : List DSeen) (p : Option Int), seenL H l p = true ↔ (∀ s ∈ l, (1 ≤ s.client ∧ s.client ≤ 8) ∧ (1 ≤ s.seq ∧ s.seq ≤ 1000000000) ∧ 1 ≤ s.rev ∧ s.rev ≤ H) ∧ List.Pairwise (fun a b => a.client < b.client) l ∧ ∀ q, p = some q → ∀ s ∈ l, q < s.client
  | [], p => by simp [seenL]
  | x :: l, p => by
    unfold seenL
    simp only [Bool.and_eq_true, decide_eq_true_eq, seenL_iff H l (some x.client), List.forall_mem_cons, List.pairwise_cons, Option.some.injEq, forall_eq']
    constructor
    · rintro ⟨⟨⟨⟨a1, a2⟩, a3⟩, a4⟩, b1, b2, b3⟩
      refine ⟨⟨⟨a1, a3, a4⟩, b1⟩, ⟨b3, b2⟩, fun q hq => ?_⟩
      subst hq
      have a2' : q < x.client := by simpa [prevLt] using a2
      exact ⟨a2', fun s hs => by have := b3 s hs; omega⟩
    · rintro ⟨⟨⟨a1, a3, a4⟩, b1⟩, ⟨b3, b2⟩, h⟩
      refine ⟨⟨⟨⟨a1, ?_⟩, a3⟩, a4⟩, b1, b2, b3⟩
      cases p with
      | none => rfl
      | some q => exact decide_eq_true (h q rfl).1
theorem s_SeenOf (d : DDoc) (c : Int) : ∃ s b, x_spec_SeenOf d c = some (s, b) ∧ (s ∈ d.seen ∨ s = ⟨0, 0, 0⟩) := by
  unfold x_spec_SeenOf
  obtain ⟨y, h1, h2⟩ := each_ex (F := x_spec_SeenOf_f0 c d) (e := fun _ => (Sum.inl () : Sum Unit (Bool × Int × Int × Int))) d.seen (fun _ _ _ => True) (fun _ _ _ y => ∀ z, y = Sum.inr z → (⟨z.2.1, z.2.2.1, z.2.2.2⟩ : DSeen) ∈ d.seen) (fun s _ z hz => by cases hz) (fun x r k s hk hx _ => by
    unfold x_spec_SeenOf_f0 x_spec_SeenOf_b0
    rw [hx]
    by_cases hc : x.client = c
    · rw [cd_t hc]
      exact .inr ⟨_, rfl, fun z hz => by cases hz; rw [← hx]; exact el_mem hk⟩
    · rw [cd_f hc]
      exact .inl ⟨(), rfl, trivial, fun y hy => hy⟩) () trivial
  rw [h1, Option.bind_some]
  cases y with
  | inl u => exact ⟨_, _, rfl, .inr rfl⟩
  | inr z => exact ⟨_, _, rfl, .inl (h2 z rfl)⟩
structure InvS (H c : Int) (r acc : List DSeen) (done : Bool) : Prop where
  ra : ∀ s ∈ acc, (1 ≤ s.client ∧ s.client ≤ 8) ∧ (1 ≤ s.seq ∧ s.seq ≤ 1000000000) ∧ 1 ≤ s.rev ∧ s.rev ≤ H
  rr : ∀ s ∈ r, (1 ≤ s.client ∧ s.client ≤ 8) ∧ (1 ≤ s.seq ∧ s.seq ≤ 1000000000) ∧ 1 ≤ s.rev ∧ s.rev ≤ H
  pa : List.Pairwise (fun a b => a.client < b.client) acc
  pr : List.Pairwise (fun a b => a.client < b.client) r
  ar : ∀ a ∈ acc, ∀ b ∈ r, a.client < b.client
  nd : done = false → ∀ a ∈ acc, a.client < c
  dn : done = true → ∀ b ∈ r, c < b.client
  ln : acc.length + r.length ≤ 8 + (if done then 1 else 0)
theorem pw_app {l : List DSeen} {x : DSeen} (h : List.Pairwise (fun a b => a.client < b.client) l) (k : ∀ a ∈ l, a.client < x.client) : List.Pairwise (fun a b : DSeen => a.client < b.client) (l ++ [x]) := by
  rw [List.pairwise_append]
  exact ⟨h, List.pairwise_singleton _ _, fun a ha b hb => by rw [List.mem_singleton.1 hb]; exact k a ha⟩
theorem mem_app1 {l : List DSeen} {x : DSeen} {p : DSeen → Prop} (h : ∀ a ∈ l, p a) (k : p x) : ∀ a ∈ l ++ [x], p a := fun a ha => by
  rcases List.mem_append.1 ha with ha | ha
  · exact h a ha
  · rw [List.mem_singleton.1 ha]; exact k
theorem s_sub_loop {c seq rv H : Int} (d : DDoc) (hc : 1 ≤ c ∧ c ≤ 8) (hq : 1 ≤ seq ∧ seq ≤ 1000000000) (hr : 1 ≤ rv ∧ rv ≤ H) (hs : seenL H d.seen none = true) (hl : d.seen.length ≤ 8) :
    ∃ y, eachN (x_spec_Submit_f0 c seq rv d) (fun (s : List DSeen × Bool) => ((s.1, s.2) : List DSeen × Bool)) d.seen.length 0 ([], false) = some y ∧ InvS H c [] y.1 y.2 := by
  obtain ⟨h1, h2, _⟩ := (seenL_iff H d.seen none).1 hs
  refine each_ex (F := x_spec_Submit_f0 c seq rv d) (e := fun (s : List DSeen × Bool) => ((s.1, s.2) : List DSeen × Bool)) d.seen (fun r _ s => InvS H c r s.1 s.2) (fun _ _ _ y => InvS H c [] y.1 y.2) (fun s hs => hs) (fun x r k s hk hx hP => ?_) ([], false) ⟨by simp, h1, by simp, h2, by simp, by simp, by simp, by simpa using hl⟩
  obtain ⟨acc, done⟩ := s
  obtain ⟨ra, rr, pa, pr, ar, nd, dn, ln⟩ := hP
  simp only at ra pa ar nd dn ln
  have rx := rr x (by simp)
  have rr' := fun s hs => rr s (List.mem_cons_of_mem _ hs)
  obtain ⟨px, pr'⟩ := List.pairwise_cons.1 pr
  have ax := fun a ha => ar a ha x (by simp)
  have ar' := fun a ha b hb => ar a ha b (List.mem_cons_of_mem x hb)
  simp only [List.length_cons] at ln
  unfold x_spec_Submit_f0 x_spec_Submit_b0
  rw [hx]
  simp only
  by_cases e : x.client = c
  · rw [cd_t e]
    refine .inl ⟨_, rfl, ⟨ra, rr', pa, pr', ar', nd, fun h b hb => dn h b (List.mem_cons_of_mem _ hb), by simp only; omega⟩, fun y hy => hy⟩
  · rw [cd_f e]
    cases done with
    | true =>
      have ln' : acc.length + (r.length + 1) ≤ 9 := by simpa using ln
      rw [Bool.not_true, cd_F, Option.bind_some, cd_F, xg_of (by omega)]
      refine .inl ⟨_, rfl, ⟨mem_app1 ra rx, rr', pw_app pa ax, pr', fun a ha b hb => ?_, fun h => (by cases h), fun h b hb => dn h b (List.mem_cons_of_mem _ hb), ?_⟩, fun y hy => hy⟩
      · exact mem_app1 (p := fun a => a.client < b.client) (fun a ha => ar' a ha b hb) (px b hb) a ha
      · simp; omega
    | false =>
      have ln' : acc.length + (r.length + 1) ≤ 8 := by simpa using ln
      rw [Bool.not_false, cd_T, Option.bind_some]
      by_cases g : c < x.client
      · rw [cd_t g, xg_of (by omega), xg_of (by simp; omega)]
        have nd' := nd rfl
        have m1 := mem_app1 (x := ⟨c, seq, rv⟩) (p := fun s => (1 ≤ s.client ∧ s.client ≤ 8) ∧ (1 ≤ s.seq ∧ s.seq ≤ 1000000000) ∧ 1 ≤ s.rev ∧ s.rev ≤ H) ra ⟨hc, hq, hr⟩
        have m2 := mem_app1 (x := ⟨c, seq, rv⟩) (p := fun s => s.client < x.client) ax g
        refine .inl ⟨_, rfl, ⟨mem_app1 m1 rx, rr', pw_app (pw_app pa nd') m2, pr', fun a ha b hb => ?_, fun h => (by cases h), fun _ b hb => ?_, ?_⟩, fun y hy => hy⟩
        · have hb' := px b hb
          exact mem_app1 (p := fun a => a.client < b.client) (fun a ha => by have := m2 a ha; omega) hb' a ha
        · have := px b hb; omega
        · simp; omega
      · rw [cd_f g, xg_of (by omega)]
        refine .inl ⟨_, rfl, ⟨mem_app1 ra rx, rr', pw_app pa ax, pr', fun a ha b hb => ?_, fun _ => mem_app1 (p := fun a => a.client < c) (nd rfl) (by omega), fun h => (by cases h), ?_⟩, fun y hy => hy⟩
        · exact mem_app1 (p := fun a => a.client < b.client) (fun a ha => ar' a ha b hb) (px b hb) a ha
        · simp; omega
end Go.Proofs.YtlgmikaemfbmaaaGreat
namespace Go.Proofs.YtlgmikaemfbmaaaGreat

theorem ledY_nrm {a b : List DPart} (h : (led a b).2.2 = true) : isNorm (ledY a b) = true := by
  have g := led_get h
  obtain ⟨j, hl⟩ := J2 g.1 g.2.1 g.2.2.1
  have y := (rawY_ok j hl).1
  unfold isNorm
  rw [g.2.2.2.2.1]
  have : ledY a b = nrm (ledY a b) := by unfold ledY; exact (nrm_nrm (oks_kinds y)).symm
  rw [decide_eq_true this]; rfl
theorem isNorm_nrm {o : List DPart} (h : okOp o = true) : isNorm (nrm o) = true := by unfold isNorm; rw [okOp_nrm h, decide_eq_true (nrm_nrm (okOp_kinds h)).symm]; rfl
def pastL : List (List DPart) → List DPart → Option (List DPart)
  | [], v => some v
  | o :: r, v => if (led o v).2.2 then pastL r (led o v).2.1 else none
theorem pastL_norm : ∀ {l : List (List DPart)} {v u : List DPart}, pastL l v = some u → isNorm v = true → isNorm u = true
  | [], v, u, h, hv => by cases h; exact hv
  | o :: r, v, u, h, hv => by
    rw [pastL] at h
    split at h
    · rename_i hc
      refine pastL_norm h ?_
      rw [(led_get hc).2.2.2.2.2]; exact ledY_nrm hc
    · cases h
def past (l : List (List DPart)) (b : List DPart) : List DPart × Bool := if okOp b then (match pastL l (nrm b) with | some v => (v, true) | none => ([], false)) else ([], false)
theorem s_Past (l : List (List DPart)) (b : List DPart) (hl : l.length ≤ 1000) : x_spec_Past l b = some (past l b) := by
  unfold x_spec_Past x_spec_l05Past past
  rw [s_OpOk, Option.bind_some]
  cases ho : okOp b with
  | false => rfl
  | true =>
    rw [Bool.not_true, cd_F, s_OpNorm, ho, if_pos rfl, Option.bind_some, if_pos rfl]
    obtain ⟨y, h1, h2⟩ := each_ex (F := x_spec_l05Past_f0 l) (e := fun (s : List (List DPart) × List DPart) => (Sum.inl (s.1, s.2) : Sum (List (List DPart) × List DPart) Unit)) l (fun r k s => s.1.length ≤ k) (fun r _ s y => match pastL r s.2 with | some v => ∃ z, y = Sum.inl (z, v) | none => y = Sum.inr ()) (fun s _ => ⟨_, rfl⟩) (fun x r k s hk hx hP => by
      unfold x_spec_l05Past_f0 x_spec_l05Past_b0
      rw [hx, s_Transform, Option.bind_some]
      simp only [pastL]
      cases hc : (led x s.2).2.2 with
      | false => exact .inr ⟨_, rfl, rfl⟩
      | true => rw [Bool.not_true, cd_F, xg_of (by omega)]; exact .inl ⟨_, rfl, by simp; omega, fun y hy => hy⟩) ([], nrm b) (by simp)
    rw [h1, Option.bind_some]
    simp only at h2
    cases hp : pastL l (nrm b) with
    | some v => rw [hp] at h2; obtain ⟨z, rfl⟩ := h2; rfl
    | none => rw [hp] at h2; subst h2; rfl
theorem foldl_o (l : List DEntry) : ∀ s : List (List DPart), l.foldl (fun s e => s ++ [e.o]) s = s ++ l.map fun e => e.o := by
  induction l with
  | nil => intro s; simp
  | cons x l ih => intro s; rw [List.foldl_cons, ih]; simp
theorem s_OpsSince {d : DDoc} (h : smDDoc d) (hk : okDoc d = true) (rev : Int) : x_spec_OpsSince d rev = some (if d.from_ ≤ rev ∧ rev ≤ d.from_ + d.list.length then ((d.list.drop (rev - d.from_).toNat).map (fun e => e.o), true) else ([], false)) := by
  obtain ⟨h1, h2⟩ := okDoc_get hk
  have hsd := sm_drop h.2.2.2.1 (rev - d.from_).toNat
  have hld : (d.list.drop (rev - d.from_).toNat).length ≤ 8 := by rw [List.length_drop]; omega
  unfold x_spec_OpsSince
  rw [s_DocOk d h, Option.bind_some, hk, Bool.not_true, cd_F, s_HeadRev h1 (by omega), Option.bind_some, s_In, Option.bind_some, Option.bind_some]
  by_cases hc : d.from_ ≤ rev ∧ rev ≤ d.from_ + d.list.length
  · rw [decide_eq_true hc, Bool.not_true, cd_F, xg_I (by omega) (by omega), xg_of ⟨by omega, by omega⟩, if_pos hc, List.take_length]
    rw [each_fold (F := x_spec_OpsSince_f0 d rev) (e := fun (s : List (List DPart)) => s) (d.list.drop (rev - d.from_).toNat) (fun r k s => s.length ≤ k) (fun s e => s ++ [e.o]) (fun x r k s hk' hx hP => by
      unfold x_spec_OpsSince_f0 x_spec_OpsSince_b0
      rw [List.take_length, s_copyOp (hsd.2 _ (el_mem hk')).2.2, Option.bind_some, xg_of (by omega), hx]
      exact ⟨rfl, by simp; omega⟩) [] (by simp), foldl_o]
    rfl
  · rw [decide_eq_false hc, Bool.not_false, cd_T, if_neg hc]
theorem s_Rebase {d : DDoc} (h : smDDoc d) (hk : okDoc d = true) (base : Int) (o : List DPart) : ∃ x c, x_spec_Rebase d base o = some (x, c) ∧ (c = 0 → isNorm x = true ∧ fits x (runT d.list d.text) = true) := by
  obtain ⟨h1, h2⟩ := okDoc_get hk
  unfold x_spec_Rebase
  rw [s_DocOk d h, Option.bind_some, hk, Bool.not_true, cd_F, s_OpOk, Option.bind_some, Option.bind_some]
  cases ho : okOp o with
  | false => exact ⟨_, _, rfl, fun h => absurd h (by decide)⟩
  | true =>
    rw [Bool.not_true, cd_F, s_HeadRev h1 (by omega), Option.bind_some]
    by_cases g1 : d.from_ + (d.list.length : Int) < base
    · rw [cd_t g1]; exact ⟨_, _, rfl, fun h => absurd h (by decide)⟩
    · rw [cd_f g1]
      by_cases g2 : base < d.from_
      · rw [cd_t g2]; exact ⟨_, _, rfl, fun h => absurd h (by decide)⟩
      · rw [cd_f g2, s_TextAt h hk, if_pos ⟨by omega, by omega⟩, Option.bind_some, s_OpFrom, Option.bind_some, cd_n]
        generalize decide ((if okParts o = true then fromOf o else 0) = (((runT (d.list.take (base - d.from_).toNat) d.text, true).1.length : Nat) : Int)) = b
        cases b with
        | false => exact ⟨_, _, rfl, fun h => absurd h (by decide)⟩
        | true =>
          rw [cd_T, s_OpsSince h hk, if_pos ⟨by omega, by omega⟩, Option.bind_some, s_Past _ _ (by simp; omega), Option.bind_some]
          unfold past
          rw [ho, if_pos rfl]
          cases hp : pastL ((d.list.drop (base - d.from_).toNat).map fun e => e.o) (nrm o) with
          | none => exact ⟨_, _, rfl, fun h => absurd h (by decide)⟩
          | some v =>
            simp only
            rw [Bool.not_true, cd_F, s_HeadText h hk, Option.bind_some, s_Apply, Option.bind_some]
            cases hf : fits v (runT d.list d.text) with
            | false => exact ⟨_, _, rfl, fun h => absurd h (by decide)⟩
            | true => exact ⟨_, _, rfl, fun _ => ⟨pastL_norm hp (isNorm_nrm ho), hf⟩⟩
theorem okOp_sm {o : List DPart} (h : okOp o = true) : smL smDPart o := smz_L smz_DPart o (by have := okOp_sz h; omega)
theorem entry_sm {e : DEntry} (h : okEntry e = true) : smDEntry e := by
  unfold okEntry at h
  simp only [Bool.and_eq_true] at h
  exact ⟨trivial, trivial, okOp_sm (isNorm_ok h.2).1⟩
theorem sm_mk {d : DDoc} (h1 : d.name.size ≤ 1099511627776) (hk : okDoc d = true) : smDDoc d := by
  have ha := okDoc_all hk
  have ht := okText_len ha.2.1
  have hs := okDoc_seen hk
  exact ⟨h1, trivial, ⟨by omega, fun _ _ => trivial⟩, ⟨by omega, fun e he => entry_sm (List.all_eq_true.1 ha.2.2.2.1 e he)⟩, ⟨by omega, fun _ _ => ⟨trivial, trivial, trivial⟩⟩⟩
theorem s_Copy {d : DDoc} (h : smDDoc d) (hk : okDoc d = true) : x_spec_l08Copy d = some d := by
  have ht := okText_len (okDoc_all hk).2.1
  have hs := okDoc_seen hk
  unfold x_spec_l08Copy
  rw [xg_of (by omega), s_Entries h.2.2.2.1, Option.bind_some, xg_of (by omega)]
  rfl
theorem sub_tail {d : DDoc} {e : DEntry} {S' : List DSeen} {rv : Int} (hk : okDoc d = true) (he : okEntry e = true) (hf : fits e.o (runT d.list d.text) = true) (hh : d.from_ + d.list.length < 999999000) (hS : seenL (d.from_ + d.list.length + 1) S' none = true) :
    ∃ d', (bif decide ((8 : Int) < ((d.list ++ [e]).length : Int)) then (xg (0 ≤ (0 : Int) ∧ (0 : Int) < ((d.list ++ [e]).length : Int)) <| Option.bind (x_spec_Apply ((el (d.list ++ [e]) 0).o) d.text) fun r420 => xg (0 ≤ (1 : Int) ∧ (1 : Int) ≤ ((d.list ++ [e]).length : Int)) <| xg (inI (d.from_ + 1)) <| some ((⟨d.name, d.from_ + 1, r420.1, ((d.list ++ [e]).take ((d.list ++ [e]).length)).drop 1, S'⟩ : DDoc), rv, (0 : Int))) else (some ((⟨d.name, d.from_, d.text, d.list ++ [e], S'⟩ : DDoc), rv, 0))) = some (d', rv, 0) ∧ okDoc d' = true ∧ d'.name = d.name ∧ d'.from_ + d'.list.length = d.from_ + d.list.length + 1 := by
  have ha := okDoc_all hk
  have hn := okDoc_name hk
  have hfold : (foldE (d.list ++ [e]) d.text).isSome = true := by
    rw [foldE_app, foldE_some (okDoc_some hk), Option.bind_some, foldE, hf, he]; rfl
  have hlen : ((d.list ++ [e]).length : Int) = d.list.length + 1 := by simp
  by_cases g : (8 : Int) < ((d.list ++ [e]).length : Int)
  · rw [cd_t g, xg_of ⟨by omega, by omega⟩]
    cases hL : d.list ++ [e] with
    | nil => rw [hL] at hlen; simp at hlen; omega
    | cons e0 l =>
      rw [hL] at hfold hlen
      rw [foldE] at hfold
      cases hc : fits e0.o d.text && okEntry e0 with
      | false => rw [hc] at hfold; cases hfold
      | true =>
        rw [hc, if_pos rfl] at hfold
        simp only [Bool.and_eq_true] at hc
        simp only [List.length_cons] at hlen
        rw [show el (e0 :: l) 0 = e0 from rfl, s_Apply, if_pos hc.1, Option.bind_some, xg_of ⟨by omega, by simp only [List.length_cons]; omega⟩, xg_I (by omega) (by omega), List.take_length]
        refine ⟨_, rfl, okDoc_mk hn ⟨by simp only; omega, by simp only; omega⟩ (okText_appl hc.1) (by simp only [List.drop_succ_cons, List.drop_zero]; omega) hfold ?_, rfl, by simp only [List.drop_succ_cons, List.drop_zero]; omega⟩
        simp only [List.drop_succ_cons, List.drop_zero]
        rw [show d.from_ + 1 + (l.length : Int) = d.from_ + d.list.length + 1 by omega]
        exact hS
  · rw [cd_f g]
    refine ⟨_, rfl, okDoc_mk hn ha.1 ha.2.1 (by simp only; omega) hfold ?_, rfl, by simp only; omega⟩
    simp only
    rw [hlen, show d.from_ + ((d.list.length : Int) + 1) = d.from_ + d.list.length + 1 by omega]
    exact hS
theorem inv_seen {H c : Int} {acc : List DSeen} (h : InvS H c [] acc true) : seenL H acc none = true := (seenL_iff H acc none).2 ⟨h.ra, h.pa, fun q hq => by cases hq⟩
theorem inv_seen' {H c seq rv : Int} {acc : List DSeen} (h : InvS H c [] acc false) (hc : 1 ≤ c ∧ c ≤ 8) (hq : 1 ≤ seq ∧ seq ≤ 1000000000) (hr : 1 ≤ rv ∧ rv ≤ H) : seenL H (acc ++ [⟨c, seq, rv⟩]) none = true :=
  (seenL_iff H _ none).2 ⟨mem_app1 h.ra ⟨hc, hq, hr⟩, pw_app h.pa (h.nd rfl), fun q hq => by cases hq⟩
theorem seenL_up {H H' : Int} (hH : H ≤ H') {l : List DSeen} (h : seenL H l none = true) : seenL H' l none = true := by
  obtain ⟨h1, h2, _⟩ := (seenL_iff H l none).1 h
  exact (seenL_iff H' l none).2 ⟨fun s hs => by have := h1 s hs; exact ⟨this.1, this.2.1, this.2.2.1, by omega⟩, h2, fun q hq => by cases hq⟩
theorem s_Submit {d : DDoc} (h : smDDoc d) (hk : okDoc d = true) (client seq base : Int) (o : List DPart) : ∃ d' r c, x_spec_Submit d client seq base o = some (d', r, c) ∧ (c = 0 → okDoc d' = true ∧ d'.name = d.name ∧ d'.from_ + d'.list.length ≤ d.from_ + d.list.length + 1) := by
  obtain ⟨h1, h2⟩ := okDoc_get hk
  have ha := okDoc_all hk
  unfold x_spec_Submit
  rw [s_DocOk d h, Option.bind_some, hk, Bool.not_true, cd_F, s_In, Option.bind_some, Option.bind_some]
  have bad : ∀ {X : Option (DDoc × Int × Int)} {c : Int}, c ≠ 0 → X = some (⟨ByteArray.empty, 0, [], [], []⟩, 0, c) → ∃ d' r c, X = some (d', r, c) ∧ (c = 0 → okDoc d' = true ∧ d'.name = d.name ∧ d'.from_ + d'.list.length ≤ d.from_ + d.list.length + 1) := fun hc hX => ⟨_, _, _, hX, fun h => absurd h hc⟩
  by_cases c1 : 1 ≤ client ∧ client ≤ 8
  · rw [decide_eq_true c1, Bool.not_true, cd_F, s_In, Option.bind_some, Option.bind_some]
    by_cases c2 : 1 ≤ seq ∧ seq ≤ 1000000000
    · rw [decide_eq_true c2, Bool.not_true, cd_F, s_OpOk, Option.bind_some, Option.bind_some]
      cases ho : okOp o with
      | false => exact bad (by decide) rfl
      | true =>
        rw [Bool.not_true, cd_F]
        obtain ⟨s, b, s1, s2⟩ := s_SeenOf d client
        rw [s1, Option.bind_some]
        have hsq : 0 ≤ s.seq ∧ s.seq ≤ 1000000000 := by
          rcases s2 with s2 | rfl
          · have := ((seenL_iff _ _ _).1 ha.2.2.2.2).1 s s2; omega
          · simp
        simp only
        have cc : (bif b then some (decide (s.seq = seq)) else some false) = some (b && decide (s.seq = seq)) := by cases b <;> rfl
        rw [cc, Option.bind_some]
        cases hb : (b && decide (s.seq = seq)) with
        | true => rw [cd_T, s_Copy h hk, Option.bind_some]; exact ⟨_, _, _, rfl, fun _ => ⟨hk, rfl, by omega⟩⟩
        | false =>
          rw [cd_F, xg_I (by omega) (by omega), cd_n]
          by_cases c3 : seq = s.seq + 1
          · rw [cd_t c3]
            obtain ⟨x, c, r1, r2⟩ := s_Rebase h hk base o
            rw [r1, Option.bind_some]
            simp only
            rw [cd_n]
            by_cases c4 : c = 0
            · rw [cd_t c4, s_HeadRev h1 (by omega), Option.bind_some]
              obtain ⟨n1, n2⟩ := r2 c4
              by_cases c5 : (999999000 : Int) ≤ d.from_ + d.list.length
              · rw [cd_t c5]; exact bad (by decide) rfl
              · rw [cd_f c5, s_Copy h hk, Option.bind_some, xg_of (by omega), s_HeadRev (d := ⟨d.name, d.from_, d.text, d.list ++ [(⟨client, seq, x⟩ : DEntry)], d.seen⟩) h1 (by simp; omega), Option.bind_some]
                have he : okEntry ⟨client, seq, x⟩ = true := by unfold okEntry; simp only; rw [decide_eq_true c1, decide_eq_true c2, n1]; rfl
                have hrv : d.from_ + (((d.list ++ [(⟨client, seq, x⟩ : DEntry)]).length : Nat) : Int) = d.from_ + d.list.length + 1 := by simp; omega
                simp only [hrv]
                obtain ⟨y, y1, y2⟩ := s_sub_loop (c := client) (seq := seq) (rv := d.from_ + d.list.length + 1) (H := d.from_ + d.list.length + 1) d c1 c2 ⟨by omega, by omega⟩ (seenL_up (by omega) ha.2.2.2.2) (okDoc_seen hk)
                rw [y1, Option.bind_some]
                obtain ⟨acc, done⟩ := y
                cases done with
                | true =>
                  obtain ⟨d', t1, t2, t3, t4⟩ := sub_tail (rv := d.from_ + d.list.length + 1) hk he n2 (by omega) (inv_seen y2)
                  simp only [Bool.not_true, cd_F]
                  rw [t1]
                  exact ⟨_, _, _, rfl, fun _ => ⟨t2, t3, by omega⟩⟩
                | false =>
                  have hl := y2.ln
                  simp only [List.length_nil, Bool.false_eq_true, if_false] at hl
                  obtain ⟨d', t1, t2, t3, t4⟩ := sub_tail (rv := d.from_ + d.list.length + 1) hk he n2 (by omega) (inv_seen' (seq := seq) (rv := d.from_ + d.list.length + 1) y2 c1 c2 ⟨by omega, by omega⟩)
                  simp only [Bool.not_false, cd_T]
                  rw [xg_of (by omega), t1]
                  exact ⟨_, _, _, rfl, fun _ => ⟨t2, t3, by omega⟩⟩
            · rw [cd_f c4]; exact bad c4 rfl
          · rw [cd_f c3]; exact bad (by decide) rfl
    · rw [decide_eq_false c2, Bool.not_false, cd_T, Option.bind_some, cd_T]; exact bad (by decide) rfl
  · rw [decide_eq_false c1, Bool.not_false, cd_T, Option.bind_some, cd_T, Option.bind_some, cd_T]; exact bad (by decide) rfl
theorem name_ok {s : ByteArray} (h0 : 1 ≤ s.size) (h1 : s.size ≤ 8) (hb : ∀ i, i < s.size → 97 ≤ (sget s i).toNat ∧ (sget s i).toNat ≤ 122) : okName s = true := by
  have key : x_impl_NameOk s = some true := by
    unfold x_impl_NameOk
    obtain ⟨y, h2, h3⟩ := iter_ex (f := x_impl_NameOk_f0 s) (fun i => 0 ≤ i ∧ i ≤ s.size) (fun i => ((s.size : Int) - i).toNat) (fun y => y = Sum.inl ()) (fun i hP => by
      unfold x_impl_NameOk_f0 x_impl_NameOk_b0
      by_cases hi : i < (s.size : Int)
      · obtain ⟨b1, b2⟩ := hb i.toNat (by omega)
        rw [cd_t hi, xg_of ⟨hP.1, hi⟩, xg_of ⟨hP.1, hi⟩, cd_f (by omega), Option.bind_some, cd_f (by omega), xg_I (by omega) (by omega)]
        exact .inl ⟨_, rfl, ⟨by omega, by omega⟩, by omega⟩
      · rw [cd_f hi]; exact .inr ⟨_, rfl, rfl⟩) 0 ⟨by omega, by omega⟩
    rw [h2, Option.bind_some, h3, Sum.elim_inl, i_within, Option.bind_some, decide_eq_true (by omega)]
  unfold okName
  rw [key]; rfl
theorem s_Str (c : DL01Cur) (l : List ByteArray) (h : cur c) (hl : 0 < l.length) : ∃ m d, x_spec_l01Str c l = some (m, d) ∧ m ∈ l ∧ cur d := by
  unfold x_spec_l01Str
  obtain ⟨m, d, h1, h2, h3⟩ := s_Below c (l.length : Int) h
  rw [h1, Option.bind_some, xg_of ⟨h2.1, by simp only; omega⟩]
  exact ⟨_, _, rfl, el_mem (by simp only; omega), h3⟩
theorem s_Name (c : DL01Cur) (h : cur c) : ∃ s d, x_spec_l08Name c = some (s, d) ∧ okName s = true ∧ s.size ≤ 8 ∧ cur d := by
  unfold x_spec_l08Name
  obtain ⟨m, d, h1, h2, h3⟩ := s_Str c [(⟨#[97]⟩ : ByteArray), (⟨#[98]⟩ : ByteArray), (⟨#[110, 111, 116, 101, 115]⟩ : ByteArray), (⟨#[116, 111, 100, 111]⟩ : ByteArray)] h (by simp)
  rw [h1, Option.bind_some]
  refine ⟨m, d, rfl, ?_, ?_, h3⟩
  · simp only [List.mem_cons, List.not_mem_nil, or_false] at h2
    rcases h2 with rfl | rfl | rfl | rfl <;> exact name_ok (by decide) (by decide) (by decide)
  · simp only [List.mem_cons, List.not_mem_nil, or_false] at h2
    rcases h2 with rfl | rfl | rfl | rfl <;> decide
theorem s_DocNew {name : ByteArray} (hn : okName name = true) (hz : name.size ≤ 8) {t : List Int} (ht : okText t = true) : x_spec_DocNew name t = some (⟨name, 0, t, [], []⟩, true) ∧ okDoc ⟨name, 0, t, [], []⟩ = true := by
  have hl := okText_len ht
  have hk : okDoc ⟨name, 0, t, [], []⟩ = true := okDoc_mk hn ⟨by simp, by simp⟩ ht (by simp) rfl rfl
  refine ⟨?_, hk⟩
  unfold x_spec_DocNew
  rw [xg_of (by omega), List.nil_append, s_DocOk _ (sm_mk (by simp only; omega) hk), hk]
  rfl
def DrP (s : Int × List UInt8 × Int × Int × ByteArray × Int × List Int × List DEntry × List DSeen) : Prop := (0 ≤ s.1 ∧ s.1 + (s.2.2.2.2.2.1 + s.2.2.2.2.2.2.2.1.length) ≤ 100) ∧ cur ⟨s.2.1, s.2.2.1, s.2.2.2.1⟩ ∧ okDoc ⟨s.2.2.2.2.1, s.2.2.2.2.2.1, s.2.2.2.2.2.2.1, s.2.2.2.2.2.2.2.1, s.2.2.2.2.2.2.2.2⟩ = true ∧ s.2.2.2.2.1.size ≤ 8
theorem dr_round {name : ByteArray} {n : Int} {b : List UInt8} {i h : Int} {d : DDoc} (h1 : 0 ≤ n ∧ n + (d.from_ + d.list.length) ≤ 100) (h2 : cur ⟨b, i, h⟩) (h3 : okDoc d = true) (h4 : d.name.size ≤ 8) : (∃ s', x_spec_l08Draw_b0 name n b i h d.name d.from_ d.text d.list d.seen = some (.go s') ∧ DrP s' ∧ s'.1.toNat < n.toNat) ∨ x_spec_l08Draw_b0 name n b i h d.name d.from_ d.text d.list d.seen = some (.out (b, i, h, d.name, d.from_, d.text, d.list, d.seen)) := by
  have hs := sm_mk (by omega) h3
  obtain ⟨g1, g2⟩ := okDoc_get h3
  have ha := okDoc_all h3
  unfold x_spec_l08Draw_b0
  by_cases hn : 0 < n
  · rw [cd_t hn]
    obtain ⟨m, c1, a1, a2, a3⟩ := s_Below ⟨b, i, h⟩ 3 h2
    rw [a1, Option.bind_some, xg_I (by simp only; omega) (by simp only; omega)]
    obtain ⟨sn, bb, b1, b2⟩ := s_SeenOf d (1 + m)
    have hsq : 0 ≤ sn.seq ∧ sn.seq ≤ 1000000000 := by
      rcases b2 with b2 | rfl
      · have := ((seenL_iff _ _ _).1 ha.2.2.2.2).1 sn b2; omega
      · simp
    simp only
    rw [show (⟨d.name, d.from_, d.text, d.list, d.seen⟩ : DDoc) = d from rfl, b1, Option.bind_some, s_HeadRev g1 (by omega), Option.bind_some, xg_I (by omega) (by omega)]
    obtain ⟨k, c2, e1, e2, e3⟩ := s_Below c1 ((d.list.length : Int) + 1) a3
    rw [e1, Option.bind_some, xg_I (by simp only; omega) (by simp only; omega)]
    simp only
    rw [s_TextAt hs h3, if_pos ⟨by omega, by omega⟩, Option.bind_some, xg_I (by omega) (by omega)]
    have htl := okText_len (head_text h3 (d.from_ + (d.list.length : Int) - k - d.from_).toNat)
    obtain ⟨o, c3, o1, _, _, _, _, o2⟩ := s_Draw0 c2 (((runT (d.list.take (d.from_ + (d.list.length : Int) - k - d.from_).toNat) d.text, true).1.length : Nat) : Int) e3 (by omega) (by simp only; omega)
    rw [o1, Option.bind_some]
    simp only
    obtain ⟨d', r, c, t1, t2⟩ := s_Submit hs h3 (1 + m) (sn.seq + 1) (d.from_ + (d.list.length : Int) - k) o
    rw [t1, Option.bind_some]
    simp only
    by_cases hc : c = 0
    · obtain ⟨u1, u2, u3⟩ := t2 hc
      rw [cd_t hc, xg_I (by omega) (by omega)]
      exact .inl ⟨_, rfl, ⟨⟨by simp only; omega, by simp only; omega⟩, o2, u1, by simp only; rw [u2]; exact h4⟩, by simp only; omega⟩
    · rw [cd_f hc, xg_I (by omega) (by omega)]
      exact .inl ⟨_, rfl, ⟨⟨by simp only; omega, by simp only; omega⟩, o2, h3, h4⟩, by simp only; omega⟩
  · rw [cd_f hn]; exact .inr rfl
theorem s_DrawDoc (c : DL01Cur) (h : cur c) {name : ByteArray} (hn : okName name = true) (hz : name.size ≤ 8) {most : Int} (hm : 0 ≤ most ∧ most ≤ 50) : ∃ d c', x_spec_l08Draw c name most = some (d, c') ∧ okDoc d = true ∧ d.name.size ≤ 8 ∧ d.from_ + d.list.length ≤ 100 := by
  unfold x_spec_l08Draw
  obtain ⟨t, c1, a1, a2, a3, a4⟩ := s_Signs c 8 h (by omega) (by omega)
  rw [a1, Option.bind_some]
  obtain ⟨n1, n2⟩ := s_DocNew hn hz (drawn_text (by omega) a3)
  simp only
  rw [n1, Option.bind_some, xg_I (by omega) (by omega)]
  obtain ⟨m, c2, b1, b2, b3⟩ := s_Below c1 (most + 1) a4
  rw [b1, Option.bind_some]
  obtain ⟨y, y1, y2⟩ := iter_ex (f := x_spec_l08Draw_f0 name) DrP (fun s => s.1.toNat) (fun y => okDoc ⟨y.2.2.2.1, y.2.2.2.2.1, y.2.2.2.2.2.1, y.2.2.2.2.2.2.1, y.2.2.2.2.2.2.2⟩ = true ∧ y.2.2.2.1.size ≤ 8 ∧ y.2.2.2.2.1 + y.2.2.2.2.2.2.1.length ≤ 100) (fun s hP => by
    obtain ⟨n, b, i, h, nm, fr, tx, ls, sn⟩ := s
    obtain ⟨p1, p2, p3, p4⟩ := hP
    rcases dr_round (name := name) (d := ⟨nm, fr, tx, ls, sn⟩) p1 p2 p3 p4 with ⟨s', q1, q2, q3⟩ | q
    · exact .inl ⟨s', q1, q2, q3⟩
    · exact .inr ⟨_, q, p3, p4, by simp only at p1 ⊢; omega⟩) (m, c2.b, c2.i, c2.h, name, 0, t, [], []) ⟨⟨b2.1, by simp; omega⟩, b3, n2, hz⟩
  simp only
  rw [y1]
  exact ⟨_, _, rfl, y2.1, y2.2.1, y2.2.2⟩
theorem s_MakeDoc (code : List UInt8) (hl : code.length ≤ 1048580) : ∃ d, x_spec_MakeDoc code = some d ∧ okDoc d = true ∧ d.name.size ≤ 8 ∧ smDDoc d ∧ d.from_ + d.list.length ≤ 100 := by
  unfold x_spec_MakeDoc
  obtain ⟨c, a1, a2, _⟩ := s_New code hl
  rw [a1, Option.bind_some]
  obtain ⟨s, c1, b1, b2, b3, b4⟩ := s_Name c a2
  rw [b1, Option.bind_some]
  obtain ⟨d, c2, e1, e2, e3, e4⟩ := s_DrawDoc c1 b4 b2 b3 (most := 10) (by omega)
  simp only
  rw [e1, Option.bind_some]
  exact ⟨d, rfl, e2, e3, sm_mk (by omega) e2, e4⟩
end Go.Proofs.YtlgmikaemfbmaaaGreat
