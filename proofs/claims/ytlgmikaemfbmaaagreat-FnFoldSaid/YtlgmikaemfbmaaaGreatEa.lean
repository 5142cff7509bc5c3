/- Documents: the texts of their revisions, and what a change sent to them makes of them. No condition. -/
import Derived.Test.YtlgmikaemfbmaaaGreatM2
import Derived.Test.YtlgmikaemfbmaaaGreatM6
import Derived.Test.YtlgmikaemfbmaaaGreatMx
import Derived.Test.YtlgmikaemfbmaaaGreatM9
namespace Go.Proofs.YtlgmikaemfbmaaaGreat

def runT (l : List DEntry) (t : List Int) : List Int := l.foldl (fun t e => appl e.o t) t
theorem foldE_app : ∀ (a b : List DEntry) (t : List Int), foldE (a ++ b) t = (foldE a t).bind (foldE b)
  | [], b, t => rfl
  | e :: a, b, t => by
    rw [List.cons_append, foldE, foldE]
    split
    · exact foldE_app a b _
    · rfl
theorem foldE_run : ∀ {l : List DEntry} {t u : List Int}, foldE l t = some u → u = runT l t
  | [], t, u, h => by cases h; rfl
  | e :: l, t, u, h => by
    rw [foldE] at h
    split at h
    · exact foldE_run (l := l) (t := appl e.o t) h
    · cases h
theorem foldE_some {l : List DEntry} {t : List Int} (h : (foldE l t).isSome = true) : foldE l t = some (runT l t) := by
  obtain ⟨u, hu⟩ := Option.isSome_iff_exists.1 h
  rw [hu, ← foldE_run hu]
theorem foldE_cut {l : List DEntry} {t : List Int} (h : (foldE l t).isSome = true) (k : Nat) : foldE (l.take k) t = some (runT (l.take k) t) ∧ foldE (l.drop k) (runT (l.take k) t) = some (runT l t) := by
  have h1 : foldE (l.take k ++ l.drop k) t = some (runT l t) := by rw [List.take_append_drop]; exact foldE_some h
  rw [foldE_app] at h1
  cases hc : foldE (l.take k) t with
  | none => rw [hc] at h1; cases h1
  | some u => rw [hc] at h1; obtain rfl := foldE_run hc; exact ⟨rfl, h1⟩
theorem foldE_text : ∀ {l : List DEntry} {t u : List Int}, foldE l t = some u → okText t = true → okText u = true
  | [], t, u, h, ht => by cases h; exact ht
  | e :: l, t, u, h, ht => by
    rw [foldE] at h
    split at h
    · rename_i hc
      simp only [Bool.and_eq_true] at hc
      exact foldE_text (l := l) (t := appl e.o t) h (okText_appl hc.1)
    · cases h
theorem okDoc_some {d : DDoc} (h : okDoc d = true) : (foldE d.list d.text).isSome = true := by
  unfold okDoc at h
  simp only [Bool.and_eq_true] at h
  exact h.2.1
theorem okDoc_name {d : DDoc} (h : okDoc d = true) : okName d.name = true := by
  unfold okDoc at h
  simp only [Bool.and_eq_true] at h
  exact h.1.1.1.1
theorem okDoc_mk {d : DDoc} (h0 : okName d.name = true) (h1 : 0 ≤ d.from_ ∧ d.from_ ≤ 999999000) (h2 : okText d.text = true) (h3 : d.list.length ≤ 8) (h4 : (foldE d.list d.text).isSome = true) (h5 : seenL (d.from_ + d.list.length) d.seen none = true) : okDoc d = true := by
  unfold okDoc
  rw [h0, decide_eq_true h1, h2, decide_eq_true h3, h4, h5]; rfl
theorem head_text {d : DDoc} (h : okDoc d = true) (k : Nat) : okText (runT (d.list.take k) d.text) = true := foldE_text (foldE_cut (okDoc_some h) k).1 (okDoc_all h).2.1
theorem head_text' {d : DDoc} (h : okDoc d = true) : okText (runT d.list d.text) = true := foldE_text (foldE_some (okDoc_some h)) (okDoc_all h).2.1
theorem s_HeadRev {d : DDoc} (h : 0 ≤ d.from_ ∧ d.from_ ≤ 999999000) (h2 : d.list.length ≤ 9) : x_spec_HeadRev d = some (d.from_ + d.list.length) := by unfold x_spec_HeadRev; rw [xg_I (by omega) (by omega)]
theorem i_HeadRev {d : DDoc} (h : 0 ≤ d.from_ ∧ d.from_ ≤ 999999000) (h2 : d.list.length ≤ 9) : x_impl_HeadRev d = some (d.from_ + d.list.length) := by unfold x_impl_HeadRev; rw [xg_I (by omega) (by omega)]
theorem s_TextAt {d : DDoc} (h : smDDoc d) (hk : okDoc d = true) (rev : Int) : x_spec_TextAt d rev = some (if d.from_ ≤ rev ∧ rev ≤ d.from_ + d.list.length then (runT (d.list.take (rev - d.from_).toNat) d.text, true) else ([], false)) := by
  obtain ⟨h1, h2⟩ := okDoc_get hk
  have htx := okText_len (okDoc_all hk).2.1
  have hf := (foldE_cut (okDoc_some hk) (rev - d.from_).toNat).1
  unfold x_spec_TextAt
  rw [s_DocOk d h, Option.bind_some, hk, Bool.not_true, cd_F, s_HeadRev h1 (by omega), Option.bind_some, s_In, Option.bind_some, Option.bind_some]
  by_cases hc : d.from_ ≤ rev ∧ rev ≤ d.from_ + d.list.length
  · rw [decide_eq_true hc, Bool.not_true, cd_F, xg_of (by omega), xg_I (by omega) (by omega), xg_of ⟨by omega, by omega⟩, if_pos hc, List.drop_zero, List.nil_append]
    rw [each_fold (F := x_spec_TextAt_f0 d rev) (e := fun (s : List Int) => s) (d.list.take (rev - d.from_).toNat) (fun r _ s => (foldE r s).isSome = true) (fun s e => appl e.o s) (fun x r k s hk' hx hP => by
      rw [foldE] at hP
      unfold x_spec_TextAt_f0 x_spec_TextAt_b0
      rw [List.drop_zero, hx, s_Apply]
      cases hq : fits x.o s && okEntry x with
      | false => rw [hq] at hP; cases hP
      | true =>
        rw [hq, if_pos rfl] at hP
        simp only [Bool.and_eq_true] at hq
        rw [hq.1, if_pos rfl, Option.bind_some]
        exact ⟨rfl, hP⟩) d.text (by rw [hf]; rfl)]
    rfl
  · rw [decide_eq_false hc, Bool.not_false, cd_T, if_neg hc]
theorem s_HeadText {d : DDoc} (h : smDDoc d) (hk : okDoc d = true) : x_spec_HeadText d = some (runT d.list d.text) := by
  obtain ⟨h1, h2⟩ := okDoc_get hk
  unfold x_spec_HeadText
  rw [s_HeadRev h1 (by omega), Option.bind_some, s_TextAt h hk, if_pos (by omega), Option.bind_some, show (d.from_ + (d.list.length : Int) - d.from_).toNat = d.list.length by omega, List.take_length]
-- Seen
theorem seenL_iff (H : Int) : ∀ (l : List DSeen) (p : Option Int), seenL H l p = true ↔ (∀ s ∈ l, (1 ≤ s.client ∧ s.client ≤ 8) ∧ (1 ≤ s.seq ∧ s.seq ≤ 1000000000) ∧ 1 ≤ s.rev ∧ s.rev ≤ H) ∧ List.Pairwise (fun a b => a.client < b.client) l ∧ ∀ q, p = some q → ∀ s ∈ l, q < s.client
  | [], p => by simp [seenL]
  | x :: l, p => by
    unfold seenL
    simp only [Bool.and_eq_true, decide_eq_true_eq, seenL_iff H l (some x.client), List.forall_mem_cons, List.pairwise_cons, Option.some.injEq, forall_eq']
    constructor
    · rintro ⟨⟨⟨⟨a1, a2⟩, a3⟩, a4⟩, b1, b2, b3⟩
      refine ⟨⟨⟨a1, a3, a4⟩, b1⟩, ⟨b3, b2⟩, fun q hq => ?_⟩
      subst hq
      have a2' : q < x.client := by simpa [prevLt] using a2
      exact ⟨a2', fun s hs => by have := b3 s hs; omega⟩
    · rintro ⟨⟨⟨a1, a3, a4⟩, b1⟩, ⟨b3, b2⟩, h⟩
      refine ⟨⟨⟨⟨a1, ?_⟩, a3⟩, a4⟩, b1, b2, b3⟩
      cases p with
      | none => rfl
      | some q => exact decide_eq_true (h q rfl).1
theorem s_SeenOf (d : DDoc) (c : Int) : ∃ s b, x_spec_SeenOf d c = some (s, b) ∧ (s ∈ d.seen ∨ s = ⟨0, 0, 0⟩) := by
  unfold x_spec_SeenOf
  obtain ⟨y, h1, h2⟩ := each_ex (F := x_spec_SeenOf_f0 c d) (e := fun _ => (Sum.inl () : Sum Unit (Bool × Int × Int × Int))) d.seen (fun _ _ _ => True) (fun _ _ _ y => ∀ z, y = Sum.inr z → (⟨z.2.1, z.2.2.1, z.2.2.2⟩ : DSeen) ∈ d.seen) (fun s _ z hz => by cases hz) (fun x r k s hk hx _ => by
    unfold x_spec_SeenOf_f0 x_spec_SeenOf_b0
    rw [hx]
    by_cases hc : x.client = c
    · rw [cd_t hc]
      exact .inr ⟨_, rfl, fun z hz => by cases hz; rw [← hx]; exact el_mem hk⟩
    · rw [cd_f hc]
      exact .inl ⟨(), rfl, trivial, fun y hy => hy⟩) () trivial
  rw [h1, Option.bind_some]
  cases y with
  | inl u => exact ⟨_, _, rfl, .inr rfl⟩
  | inr z => exact ⟨_, _, rfl, .inl (h2 z rfl)⟩
structure InvS (H c : Int) (r acc : List DSeen) (done : Bool) : Prop where
  ra : ∀ s ∈ acc, (1 ≤ s.client ∧ s.client ≤ 8) ∧ (1 ≤ s.seq ∧ s.seq ≤ 1000000000) ∧ 1 ≤ s.rev ∧ s.rev ≤ H
  rr : ∀ s ∈ r, (1 ≤ s.client ∧ s.client ≤ 8) ∧ (1 ≤ s.seq ∧ s.seq ≤ 1000000000) ∧ 1 ≤ s.rev ∧ s.rev ≤ H
  pa : List.Pairwise (fun a b => a.client < b.client) acc
  pr : List.Pairwise (fun a b => a.client < b.client) r
  ar : ∀ a ∈ acc, ∀ b ∈ r, a.client < b.client
  nd : done = false → ∀ a ∈ acc, a.client < c
  dn : done = true → ∀ b ∈ r, c < b.client
  ln : acc.length + r.length ≤ 8 + (if done then 1 else 0)
theorem pw_app {l : List DSeen} {x : DSeen} (h : List.Pairwise (fun a b => a.client < b.client) l) (k : ∀ a ∈ l, a.client < x.client) : List.Pairwise (fun a b : DSeen => a.client < b.client) (l ++ [x]) := by
  rw [List.pairwise_append]
  exact ⟨h, List.pairwise_singleton _ _, fun a ha b hb => by rw [List.mem_singleton.1 hb]; exact k a ha⟩
theorem mem_app1 {l : List DSeen} {x : DSeen} {p : DSeen → Prop} (h : ∀ a ∈ l, p a) (k : p x) : ∀ a ∈ l ++ [x], p a := fun a ha => by
  rcases List.mem_append.1 ha with ha | ha
  · exact h a ha
  · rw [List.mem_singleton.1 ha]; exact k
theorem s_sub_loop {c seq rv H : Int} (d : DDoc) (hc : 1 ≤ c ∧ c ≤ 8) (hq : 1 ≤ seq ∧ seq ≤ 1000000000) (hr : 1 ≤ rv ∧ rv ≤ H) (hs : seenL H d.seen none = true) (hl : d.seen.length ≤ 8) :
    ∃ y, eachN (x_spec_Submit_f0 c seq rv d) (fun (s : List DSeen × Bool) => ((s.1, s.2) : List DSeen × Bool)) d.seen.length 0 ([], false) = some y ∧ InvS H c [] y.1 y.2 := by
  obtain ⟨h1, h2, _⟩ := (seenL_iff H d.seen none).1 hs
  refine each_ex (F := x_spec_Submit_f0 c seq rv d) (e := fun (s : List DSeen × Bool) => ((s.1, s.2) : List DSeen × Bool)) d.seen (fun r _ s => InvS H c r s.1 s.2) (fun _ _ _ y => InvS H c [] y.1 y.2) (fun s hs => hs) (fun x r k s hk hx hP => ?_) ([], false) ⟨by simp, h1, by simp, h2, by simp, by simp, by simp, by simpa using hl⟩
  obtain ⟨acc, done⟩ := s
  obtain ⟨ra, rr, pa, pr, ar, nd, dn, ln⟩ := hP
  simp only at ra pa ar nd dn ln
  have rx := rr x (by simp)
  have rr' := fun s hs => rr s (List.mem_cons_of_mem _ hs)
  obtain ⟨px, pr'⟩ := List.pairwise_cons.1 pr
  have ax := fun a ha => ar a ha x (by simp)
  have ar' := fun a ha b hb => ar a ha b (List.mem_cons_of_mem x hb)
  simp only [List.length_cons] at ln
  unfold x_spec_Submit_f0 x_spec_Submit_b0
  rw [hx]
  simp only
  by_cases e : x.client = c
  · rw [cd_t e]
    refine .inl ⟨_, rfl, ⟨ra, rr', pa, pr', ar', nd, fun h b hb => dn h b (List.mem_cons_of_mem _ hb), by simp only; omega⟩, fun y hy => hy⟩
  · rw [cd_f e]
    cases done with
    | true =>
      have ln' : acc.length + (r.length + 1) ≤ 9 := by simpa using ln
      rw [Bool.not_true, cd_F, Option.bind_some, cd_F, xg_of (by omega)]
      refine .inl ⟨_, rfl, ⟨mem_app1 ra rx, rr', pw_app pa ax, pr', fun a ha b hb => ?_, fun h => (by cases h), fun h b hb => dn h b (List.mem_cons_of_mem _ hb), ?_⟩, fun y hy => hy⟩
      · exact mem_app1 (p := fun a => a.client < b.client) (fun a ha => ar' a ha b hb) (px b hb) a ha
      · simp; omega
    | false =>
      have ln' : acc.length + (r.length + 1) ≤ 8 := by simpa using ln
      rw [Bool.not_false, cd_T, Option.bind_some]
      by_cases g : c < x.client
      · rw [cd_t g, xg_of (by omega), xg_of (by simp; omega)]
        have nd' := nd rfl
        have m1 := mem_app1 (x := ⟨c, seq, rv⟩) (p := fun s => (1 ≤ s.client ∧ s.client ≤ 8) ∧ (1 ≤ s.seq ∧ s.seq ≤ 1000000000) ∧ 1 ≤ s.rev ∧ s.rev ≤ H) ra ⟨hc, hq, hr⟩
        have m2 := mem_app1 (x := ⟨c, seq, rv⟩) (p := fun s => s.client < x.client) ax g
        refine .inl ⟨_, rfl, ⟨mem_app1 m1 rx, rr', pw_app (pw_app pa nd') m2, pr', fun a ha b hb => ?_, fun h => (by cases h), fun _ b hb => ?_, ?_⟩, fun y hy => hy⟩
        · have hb' := px b hb
          exact mem_app1 (p := fun a => a.client < b.client) (fun a ha => by have := m2 a ha; omega) hb' a ha
        · have := px b hb; omega
        · simp; omega
      · rw [cd_f g, xg_of (by omega)]
        refine .inl ⟨_, rfl, ⟨mem_app1 ra rx, rr', pw_app pa ax, pr', fun a ha b hb => ?_, fun _ => mem_app1 (p := fun a => a.client < c) (nd rfl) (by omega), fun h => (by cases h), ?_⟩, fun y hy => hy⟩
        · exact mem_app1 (p := fun a => a.client < b.client) (fun a ha => ar' a ha b hb) (px b hb) a ha
        · simp; omega
end Go.Proofs.YtlgmikaemfbmaaaGreat
