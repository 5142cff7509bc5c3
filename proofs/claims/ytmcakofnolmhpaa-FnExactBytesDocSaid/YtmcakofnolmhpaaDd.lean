/- Documents read from bytes: the program and the reference read alike. No condition. -/
import Derived.Test.YtmcakofnolmhpaaDc
namespace Go.Proofs.Ytmcakofnolmhpaa

theorem seqP_some {A B : Type} {p : Ps A} {q : A → Ps B} {a k : Int} {x : A} {y : B} : seqP p q a = some ((x, y), k) ↔ ∃ k1, p a = some (x, k1) ∧ q x k1 = some (y, k) := by
  unfold seqP
  cases hp : p a with
  | none => simp
  | some r =>
    obtain ⟨x', k1⟩ := r
    simp only
    cases hq : q x' k1 with
    | none =>
      simp only [Option.map_none, Option.some.injEq, Prod.mk.injEq]
      refine ⟨(fun h => by cases h), ?_⟩
      rintro ⟨_, ⟨rfl, rfl⟩, h⟩
      rw [hq] at h; cases h
    | some u =>
      obtain ⟨y', k'⟩ := u
      simp only [Option.map_some, Option.some.injEq, Prod.mk.injEq]
      constructor
      · rintro ⟨⟨rfl, rfl⟩, rfl⟩; exact ⟨k1, ⟨rfl, rfl⟩, hq⟩
      · rintro ⟨_, ⟨rfl, rfl⟩, h⟩
        rw [hq] at h
        simp only [Option.some.injEq, Prod.mk.injEq] at h
        exact ⟨⟨rfl, h.1⟩, h.2⟩
theorem mapP_some {A B : Type} {f : A → B} {p : Ps A} {a k : Int} {z : B} : mapP f p a = some (z, k) ↔ ∃ x, p a = some (x, k) ∧ f x = z := by
  unfold mapP
  cases hp : p a with
  | none => simp
  | some r =>
    obtain ⟨x, k'⟩ := r
    simp only [Option.map_some, Option.some.injEq, Prod.mk.injEq]
    constructor
    · rintro ⟨h, rfl⟩; exact ⟨x, ⟨rfl, rfl⟩, h⟩
    · rintro ⟨_, ⟨rfl, rfl⟩, h⟩; exact ⟨h, rfl⟩
theorem many_some {T : Type} {p : Ps T} : ∀ {n : Nat} {a k : Int} {x : T} {l : List T}, many p (n + 1) a = some (x :: l, k) ↔ ∃ k1, p a = some (x, k1) ∧ many p n k1 = some (l, k) := by
  intro n a k x l
  rw [many]
  cases hp : p a with
  | none => simp
  | some r =>
    obtain ⟨x', k1⟩ := r
    simp only
    cases hm : many p n k1 with
    | none =>
      simp only [Option.map_none, Option.some.injEq, Prod.mk.injEq]
      refine ⟨(fun h => by cases h), ?_⟩
      rintro ⟨_, ⟨rfl, rfl⟩, h⟩
      rw [hm] at h; cases h
    | some u =>
      obtain ⟨l', k'⟩ := u
      simp only [Option.map_some, Option.some.injEq, Prod.mk.injEq, List.cons.injEq]
      constructor
      · rintro ⟨⟨rfl, rfl⟩, rfl⟩; exact ⟨k1, ⟨rfl, rfl⟩, hm⟩
      · rintro ⟨_, ⟨rfl, rfl⟩, h⟩
        rw [hm] at h
        simp only [Option.some.injEq, Prod.mk.injEq] at h
        exact ⟨⟨rfl, h.1⟩, h.2⟩
theorem many_len {T : Type} {p : Ps T} : ∀ {n : Nat} {a k : Int} {l : List T}, many p n a = some (l, k) → l.length = n
  | 0, a, k, l, h => by rw [many] at h; simp only [Option.some.injEq, Prod.mk.injEq] at h; rw [← h.1]; rfl
  | n + 1, a, k, l, h => by
    cases l with
    | nil =>
      rw [many] at h
      cases hp : p a with
      | none => rw [hp] at h; cases h
      | some r =>
        rw [hp] at h
        simp only at h
        cases hm : many p n r.2 with
        | none => rw [hm] at h; cases h
        | some u => rw [hm] at h; simp at h
    | cons x l =>
      obtain ⟨k1, _, h2⟩ := many_some.1 h
      rw [List.length_cons, many_len h2]
def Le {T : Type} (p q : Ps T) : Prop := ∀ a x k, p a = some (x, k) → q a = some (x, k)
def Ge {T : Type} (good : T → Prop) (p q : Ps T) : Prop := ∀ a x k, p a = some (x, k) → good x → q a = some (x, k)
theorem Le.rfl {T : Type} {p : Ps T} : Le p p := fun _ _ _ h => h
theorem Le.many {T : Type} {p q : Ps T} (h : Le p q) : ∀ n, Le (many p n) (many q n)
  | 0 => fun _ _ _ e => e
  | n + 1 => fun a l k e => by
    cases l with
    | nil => have := many_len e; simp at this
    | cons x l =>
      obtain ⟨k1, h1, h2⟩ := many_some.1 e
      exact many_some.2 ⟨k1, h _ _ _ h1, Le.many h n _ _ _ h2⟩
theorem Ge.many {T : Type} {good : T → Prop} {p q : Ps T} (h : Ge good p q) : ∀ n, Ge (fun l => ∀ x ∈ l, good x) (many p n) (many q n)
  | 0 => fun _ _ _ e _ => e
  | n + 1 => fun a l k e g => by
    cases l with
    | nil => have := many_len e; simp at this
    | cons x l =>
      obtain ⟨k1, h1, h2⟩ := many_some.1 e
      exact many_some.2 ⟨k1, h _ _ _ h1 (g x (by simp)), Ge.many h n _ _ _ h2 fun y hy => g y (by simp [hy])⟩
theorem Le.map {A B : Type} {f : A → B} {p q : Ps A} (h : Le p q) : Le (mapP f p) (mapP f q) := fun a z k e => by
  obtain ⟨x, h1, h2⟩ := mapP_some.1 e
  exact mapP_some.2 ⟨x, h _ _ _ h1, h2⟩
theorem Le.seq {A B : Type} {p p' : Ps A} {q q' : A → Ps B} (h : Le p p') (k : ∀ x, Le (q x) (q' x)) : Le (seqP p q) (seqP p' q') := fun a z k0 e => by
  obtain ⟨x, y⟩ := z
  obtain ⟨k1, h1, h2⟩ := seqP_some.1 e
  exact seqP_some.2 ⟨k1, h _ _ _ h1, k x _ _ _ h2⟩
def lst {T : Type} (c : Ps Int) (p : Ps T) : Ps (List T) := mapP Prod.snd (seqP c fun n => many p n.toNat)
theorem cnt_le (b : List UInt8) (m : Int) : Le (cntP b m) (gM b) := fun a n k e => by
  unfold cntP at e
  cases h : gM b a with
  | none => rw [h] at e; cases e
  | some u =>
    rw [h] at e
    simp only at e
    split at e
    · cases e
    · exact e
theorem Le.lst {T : Type} {c c' : Ps Int} {p q : Ps T} (hc : Le c c') (h : Le p q) : Le (lst c p) (lst c' q) := Le.map (Le.seq hc fun n => Le.many h n.toNat)
theorem ge_lst {T : Type} {b : List UInt8} {m : Int} {good : T → Prop} {p q : Ps T} (h : Ge good p q) : Ge (fun l => (l.length : Int) ≤ m ∧ ∀ x ∈ l, good x) (lst (gM b) p) (lst (cntP b m) q) := fun a l k e g => by
  obtain ⟨z, h1, rfl⟩ := mapP_some.1 e
  obtain ⟨n, l⟩ := z
  obtain ⟨k1, h2, h3⟩ := seqP_some.1 h1
  have hl := many_len h3
  have hp := gM_pn h2
  refine mapP_some.2 ⟨(n, l), seqP_some.2 ⟨k1, ?_, h.many _ _ _ _ h3 g.2⟩, rfl⟩
  unfold cntP
  rw [h2]
  simp only
  have g1 := g.1
  simp only at g1
  rw [if_neg (by omega)]

-- What is read
def bodyI (b : List UInt8) (h : Int) : Ps (Int × List Int) := if h % 4 = 2 then mapP (fun l => ((0 : Int), l)) (many (gM b) (h / 4).toNat) else fun a => some ((h / 4, []), a)
def bodyS (b : List UInt8) (h : Int) : Ps (Int × List Int) := if 200 < h / 4 then fun _ => none else bodyI b h
def mkP (z : Int × (Int × List Int)) : DPart := ⟨z.1 % 4, z.2.1, z.2.2⟩
def partI (b : List UInt8) : Ps DPart := mapP mkP (seqP (gM b) (bodyI b))
def partS (b : List UInt8) : Ps DPart := mapP mkP (seqP (gM b) (bodyS b))
def opI (b : List UInt8) : Ps (List DPart) := lst (gM b) (partI b)
def opS (b : List UInt8) : Ps (List DPart) := lst (cntP b 600) (partS b)
def mkE (z : (Int × Int) × List DPart) : DEntry := ⟨z.1.1, z.1.2, z.2⟩
def entI (b : List UInt8) : Ps DEntry := mapP mkE (seqP (seqP (gM b) fun _ => gM b) fun _ => opI b)
def entS (b : List UInt8) : Ps DEntry := mapP mkE (seqP (seqP (gM b) fun _ => gM b) fun _ => opS b)
def mkS (z : (Int × Int) × Int) : DSeen := ⟨z.1.1, z.1.2, z.2⟩
def seenP (b : List UInt8) : Ps DSeen := mapP mkS (seqP (seqP (gM b) fun _ => gM b) fun _ => gM b)
abbrev D4 := ((Int × List Int) × List DEntry) × List DSeen
def docI (b : List UInt8) : Ps D4 := seqP (seqP (seqP (gM b) fun _ => lst (gM b) (gM b)) fun _ => lst (gM b) (entI b)) fun _ => lst (gM b) (seenP b)
def docS (b : List UInt8) : Ps D4 := seqP (seqP (seqP (gM b) fun _ => lst (cntP b 200) (gM b)) fun _ => lst (cntP b 8) (entS b)) fun _ => lst (cntP b 8) (seenP b)
def mkD (name : ByteArray) (z : D4) : DDoc := ⟨name, z.1.1.1, z.1.1.2, z.1.2, z.2⟩
theorem body_mon (b : List UInt8) (h : Int) : Mon (bodyI b h) := by
  unfold bodyI
  split
  · exact mapP_mon (many_mon (gM_str b).mon _)
  · intro a x k e
    simp only [Option.some.injEq, Prod.mk.injEq] at e
    omega
theorem bodyS_mon (b : List UInt8) (h : Int) : Mon (bodyS b h) := by
  unfold bodyS
  split
  · intro a x k e; cases e
  · exact body_mon b h
theorem partI_str (b : List UInt8) : Str (partI b) := mapP_str (seqP_str (gM_str b) (body_mon b))
theorem partS_str (b : List UInt8) : Str (partS b) := mapP_str (seqP_str (gM_str b) (bodyS_mon b))
theorem cnt_str (b : List UInt8) (m : Int) : Str (cntP b m) := fun a x k e => gM_str b a x k (cnt_le b m a x k e)
theorem lst_str {T : Type} {c : Ps Int} {p : Ps T} (hc : Str c) (hp : Mon p) : Str (lst c p) := mapP_str (seqP_str hc fun n => many_mon hp n.toNat)
theorem opI_str (b : List UInt8) : Str (opI b) := lst_str (gM_str b) (partI_str b).mon
theorem opS_str (b : List UInt8) : Str (opS b) := lst_str (cnt_str b 600) (partS_str b).mon
theorem entI_str (b : List UInt8) : Str (entI b) := mapP_str (seqP_str (seqP_str (gM_str b) fun _ => (gM_str b).mon) fun _ => (opI_str b).mon)
theorem entS_str (b : List UInt8) : Str (entS b) := mapP_str (seqP_str (seqP_str (gM_str b) fun _ => (gM_str b).mon) fun _ => (opS_str b).mon)
theorem seenP_str (b : List UInt8) : Str (seenP b) := mapP_str (seqP_str (seqP_str (gM_str b) fun _ => (gM_str b).mon) fun _ => (gM_str b).mon)
theorem part_le (b : List UInt8) : Le (partS b) (partI b) := Le.map (Le.seq Le.rfl fun h a x k e => by
  unfold bodyS at e
  split at e
  · cases e
  · exact e)
theorem part_ge (b : List UInt8) : Ge (fun x => okPart x = true) (partI b) (partS b) := fun a x k e g => by
  obtain ⟨z, h1, rfl⟩ := mapP_some.1 e
  obtain ⟨h, y⟩ := z
  obtain ⟨k1, h2, h3⟩ := seqP_some.1 h1
  refine mapP_some.2 ⟨(h, y), seqP_some.2 ⟨k1, h2, ?_⟩, rfl⟩
  have hp := gM_pn h2
  unfold bodyS
  rw [if_neg ?_]
  · exact h3
  · unfold bodyI at h3
    by_cases hk : h % 4 = 2
    · rw [if_pos hk] at h3
      obtain ⟨l, h4, h5⟩ := mapP_some.1 h3
      have hl := many_len h4
      have hb := (okPart_len g).1
      have : (mkP (h, y)).signs = l := by rw [← h5]; rfl
      rw [this] at hb
      obtain ⟨q1, q2⟩ := hp
      omega
    · rw [if_neg hk] at h3
      simp only [Option.some.injEq, Prod.mk.injEq] at h3
      have hb := okPart_len g
      have : (mkP (h, y)).n = h / 4 := by rw [← h3.1]; rfl
      rw [this] at hb
      omega
theorem op_le (b : List UInt8) : Le (opS b) (opI b) := Le.lst (cnt_le b 600) (part_le b)
theorem op_ge (b : List UInt8) : Ge (fun o => okOp o = true) (opI b) (opS b) := fun a o k e g => ge_lst (m := 600) (part_ge b) a o k e ⟨by have := okParts_len (okOp_parts g); omega, fun x hx => okParts_mem (okOp_parts g) hx⟩
theorem ent_le (b : List UInt8) : Le (entS b) (entI b) := Le.map (Le.seq Le.rfl fun _ => op_le b)
theorem ent_ge (b : List UInt8) : Ge (fun e => okEntry e = true) (entI b) (entS b) := fun a x k e g => by
  obtain ⟨z, h1, rfl⟩ := mapP_some.1 e
  obtain ⟨c, o⟩ := z
  obtain ⟨k1, h2, h3⟩ := seqP_some.1 h1
  exact mapP_some.2 ⟨(c, o), seqP_some.2 ⟨k1, h2, op_ge b _ _ _ h3 (entN_ok g).1⟩, rfl⟩
theorem doc_le (b : List UInt8) : Le (docS b) (docI b) := Le.seq (Le.seq (Le.seq Le.rfl fun _ => Le.lst (cnt_le b 200) Le.rfl) fun _ => Le.lst (cnt_le b 8) (ent_le b)) fun _ => Le.lst (cnt_le b 8) Le.rfl
theorem seen_len : ∀ (l : List DSeen) (q : Option Int) (H : Int), seenL H l q = true → (0 ≤ q.getD 0 ∧ q.getD 0 ≤ 8) → (l.length : Int) + q.getD 0 ≤ 8
  | [], q, H, _, hq => by simp; omega
  | x :: l, q, H, h, hq => by
    unfold seenL at h
    simp only [Bool.and_eq_true, decide_eq_true_eq] at h
    have ih := seen_len l (some x.client) H h.2 ⟨by simp only [Option.getD_some]; omega, by simp only [Option.getD_some]; omega⟩
    simp only [Option.getD_some] at ih
    have hlt : q.getD 0 < x.client := by
      cases q with
      | none => simp only [Option.getD_none]; omega
      | some c =>
        have := h.1.1.1.2
        unfold prevLt at this
        simpa using this
    simp only [List.length_cons]; omega
theorem doc_ge (b : List UInt8) (name : ByteArray) : Ge (fun z => okDoc (mkD name z) = true) (docI b) (docS b) := fun a z k e g => by
  obtain ⟨h1, h2, h3, h4, h5⟩ := okDoc_all g
  have ht := okText_len h2
  have hs := seen_len _ _ _ h5 ⟨by simp, by simp⟩
  obtain ⟨⟨⟨f, t⟩, l⟩, s⟩ := z
  obtain ⟨k1, e1, e2⟩ := seqP_some.1 e
  obtain ⟨k2, e3, e4⟩ := seqP_some.1 e1
  obtain ⟨k3, e5, e6⟩ := seqP_some.1 e3
  refine seqP_some.2 ⟨k1, seqP_some.2 ⟨k2, seqP_some.2 ⟨k3, e5, ?_⟩, ?_⟩, ?_⟩
  · exact ge_lst (m := 200) (good := fun _ => True) (fun _ _ _ h _ => h) _ _ _ e6 ⟨by change t.length ≤ 200 at ht; omega, fun _ _ => trivial⟩
  · exact ge_lst (m := 8) (ent_ge b) _ _ _ e4 ⟨by change l.length ≤ 8 at h3; omega, fun x hx => List.all_eq_true.1 h4 x hx⟩
  · exact ge_lst (m := 8) (good := fun _ => True) (fun _ _ _ h _ => h) _ _ _ e2 ⟨by change (s.length : Int) + 0 ≤ 8 at hs; omega, fun _ _ => trivial⟩

-- Sizes
def szP (b : List UInt8) (p : DPart) : Prop := (p.signs.length : Int) ≤ b.length + 1
def szO (b : List UInt8) (o : List DPart) : Prop := (o.length : Int) ≤ b.length + 1 ∧ ∀ p ∈ o, szP b p
def szE (b : List UInt8) (e : DEntry) : Prop := szO b e.o
def szI' (b : List UInt8) (l : List Int) : Prop := (l.length : Int) ≤ b.length + 1 ∧ ∀ x ∈ l, pn x
theorem Out.ret {T : Type} {b : List UInt8} {a : Int} {c : Bool} {S : T → Prop} {x : T} (h0 : 0 ≤ a) (h1 : a ≤ b.length) (hs : S x) : Out b a c (some (x, a)) S x b a c := ⟨rfl, h0, h1, hs, fun h => h, fun h => ⟨rfl, rfl, h⟩⟩
theorem Out.stop {T : Type} {b : List UInt8} {a : Int} {c : Bool} {S : T → Prop} {x : T} (h0 : 0 ≤ a) (h1 : a ≤ b.length) (hs : S x) : Out b a c none S x b a true := ⟨rfl, h0, h1, hs, fun _ => rfl, fun _ => rfl⟩
theorem Out.weak {T : Type} {b b' : List UInt8} {a a' : Int} {c c' : Bool} {p : Option (T × Int)} {S R : T → Prop} {x : T} (h : Out b a c p S x b' a' c') (hf : S x → R x) : Out b a c p R x b' a' c' := ⟨h.eb, h.lo, h.hi, hf h.sz, h.kb, h.ok⟩
end Go.Proofs.Ytmcakofnolmhpaa
