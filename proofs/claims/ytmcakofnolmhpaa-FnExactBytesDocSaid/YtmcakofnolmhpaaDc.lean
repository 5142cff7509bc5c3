/- Readers of many things, one after the other. No condition. -/
import Derived.Test.YtmcakofnolmhpaaDb
namespace Go.Proofs.Ytmcakofnolmhpaa

abbrev Ps (T : Type) := Int → Option (T × Int)
def many {T : Type} (p : Ps T) : Nat → Ps (List T)
  | 0, a => some ([], a)
  | n + 1, a => match p a with
    | none => none
    | some (x, k) => (many p n k).map fun r => (x :: r.1, r.2)
def mapP {A B : Type} (f : A → B) (p : Ps A) : Ps B := fun a => (p a).map fun r => (f r.1, r.2)
def seqP {A B : Type} (p : Ps A) (q : A → Ps B) : Ps (A × B) := fun a => match p a with
  | none => none
  | some (x, k) => (q x k).map fun r => ((x, r.1), r.2)
def Mon {T : Type} (p : Ps T) : Prop := ∀ a x k, p a = some (x, k) → a ≤ k
def Str {T : Type} (p : Ps T) : Prop := ∀ a x k, p a = some (x, k) → a < k
theorem Str.mon {T : Type} {p : Ps T} (h : Str p) : Mon p := fun a x k e => Int.le_of_lt (h a x k e)
theorem many_mon {T : Type} {p : Ps T} (h : Mon p) : ∀ n, Mon (many p n)
  | 0 => fun a x k e => by cases e; exact Int.le_refl _
  | n + 1 => fun a x k e => by
    rw [many] at e
    cases hp : p a with
    | none => rw [hp] at e; cases e
    | some r =>
      rw [hp] at e
      simp only at e
      cases hm : many p n r.2 with
      | none => rw [hm] at e; cases e
      | some q =>
        rw [hm] at e
        simp only [Option.map_some, Option.some.injEq, Prod.mk.injEq] at e
        have h1 := h a r.1 r.2 hp
        have h2 := many_mon h n r.2 q.1 q.2 hm
        omega
theorem mapP_str {A B : Type} {f : A → B} {p : Ps A} (h : Str p) : Str (mapP f p) := fun a x k e => by
  unfold mapP at e
  cases hp : p a with
  | none => rw [hp] at e; cases e
  | some r =>
    rw [hp] at e
    simp only [Option.map_some, Option.some.injEq, Prod.mk.injEq] at e
    have := h a r.1 r.2 hp
    omega
theorem mapP_mon {A B : Type} {f : A → B} {p : Ps A} (h : Mon p) : Mon (mapP f p) := fun a x k e => by
  unfold mapP at e
  cases hp : p a with
  | none => rw [hp] at e; cases e
  | some r =>
    rw [hp] at e
    simp only [Option.map_some, Option.some.injEq, Prod.mk.injEq] at e
    have := h a r.1 r.2 hp
    omega
theorem seqP_str {A B : Type} {p : Ps A} {q : A → Ps B} (h : Str p) (k0 : ∀ x, Mon (q x)) : Str (seqP p q) := fun a x k e => by
  unfold seqP at e
  cases hp : p a with
  | none => rw [hp] at e; cases e
  | some r =>
    rw [hp] at e
    simp only at e
    cases hq : q r.1 r.2 with
    | none => rw [hq] at e; cases e
    | some u =>
      rw [hq] at e
      simp only [Option.map_some, Option.some.injEq, Prod.mk.injEq] at e
      have h1 := h a r.1 r.2 hp
      have h2 := k0 r.1 r.2 u.1 u.2 hq
      omega
theorem gN_get {b : List UInt8} {a n k : Int} (h : gN b a = some (n, k)) (h0 : 0 ≤ a) : pn n ∧ a < k ∧ k ≤ b.length := by
  unfold gN at h
  split at h
  · rename_i ht
    have g := g3_bd ht
    simp only [Option.some.injEq, Prod.mk.injEq] at h
    rw [← h.1, ← h.2]
    exact ⟨g.1, by omega, g.2.2⟩
  · cases h
/-- As gN, but nothing ahead of the bytes. -/
def gM (b : List UInt8) : Ps Int := fun a => if 0 ≤ a then gN b a else none
theorem gM_str (b : List UInt8) : Str (gM b) := fun a x k e => by
  unfold gM at e
  split at e
  · rename_i h0; exact (gN_get e h0).2.1
  · cases e
theorem gM_pn {b : List UInt8} {a n k : Int} (h : gM b a = some (n, k)) : pn n := by
  unfold gM at h
  split at h
  · rename_i h0; exact (gN_get h h0).1
  · cases h

/-- What one reader has done. -/
structure Out {T : Type} (b : List UInt8) (a : Int) (bad : Bool) (p : Option (T × Int)) (Sz : T → Prop) (x : T) (b' : List UInt8) (a' : Int) (bad' : Bool) : Prop where
  eb : b' = b
  lo : 0 ≤ a'
  hi : a' ≤ b.length
  sz : Sz x
  kb : bad = true → bad' = true
  ok : bad = false → match p with
    | some (y, k) => x = y ∧ a' = k ∧ bad' = false
    | none => bad' = true
theorem Out.seq {A B : Type} {b b1 b2 : List UInt8} {a a1 a2 : Int} {c c1 c2 : Bool} {p : Ps A} {q : A → Ps B} {S : A → Prop} {R : B → Prop} {x : A} {y : B}
    (h : Out b a c (p a) S x b1 a1 c1) (k : Out b a1 c1 (q x a1) R y b2 a2 c2) : Out b a c (seqP p q a) (fun z => S z.1 ∧ R z.2) (x, y) b2 a2 c2 := by
  refine ⟨k.eb, k.lo, k.hi, ⟨h.sz, k.sz⟩, fun e => k.kb (h.kb e), fun e => ?_⟩
  have h1 := h.ok e
  unfold seqP
  cases hp : p a with
  | none => rw [hp] at h1; exact k.kb h1
  | some r =>
    obtain ⟨x', k'⟩ := r
    rw [hp] at h1
    simp only at h1 ⊢
    obtain ⟨rfl, rfl, h1⟩ := h1
    have h2 := k.ok h1
    cases hq : q x a1 with
    | none => rw [hq] at h2; exact h2
    | some u => rw [hq] at h2; simp only [Option.map_some]; exact ⟨by rw [h2.1], h2.2⟩
theorem Out.map {A B : Type} {b b1 : List UInt8} {a a1 : Int} {c c1 : Bool} {p : Ps A} {S : A → Prop} {R : B → Prop} {x : A} (f : A → B) (h : Out b a c (p a) S x b1 a1 c1) (hf : S x → R (f x)) : Out b a c (mapP f p a) R (f x) b1 a1 c1 := by
  refine ⟨h.eb, h.lo, h.hi, hf h.sz, h.kb, fun e => ?_⟩
  have h1 := h.ok e
  unfold mapP
  cases hp : p a with
  | none => rw [hp] at h1; exact h1
  | some r => rw [hp] at h1; simp only [Option.map_some]; exact ⟨by rw [h1.1], h1.2⟩

theorem loop_gen {σ ρ T : Type} {F : σ → Option (Lr σ ρ)} (b : List UInt8) (cnt at_ : σ → Int) (bad : σ → Bool) (bs : σ → List UInt8) (out : σ → List T) (I : σ → Prop) (R : σ → ρ → Prop) (p : Ps T) (Sz : T → Prop) (hp : Str p)
    (hs : ∀ s, I s → bs s = b → 0 ≤ at_ s → at_ s ≤ b.length → ((out s).length : Int) ≤ b.length + 1 →
      (0 < cnt s ∧ bad s = false → ∃ s' x, F s = some (.go s') ∧ I s' ∧ cnt s' = cnt s - 1 ∧ out s' = out s ++ [x] ∧ Out b (at_ s) (bad s) (p (at_ s)) Sz x (bs s') (at_ s') (bad s')) ∧
      (¬ (0 < cnt s ∧ bad s = false) → ∃ y, F s = some (.out y) ∧ R s y))
    (s0 : σ) (h0 : I s0) (hb0 : bs s0 = b) (ha : 0 ≤ at_ s0) (hb : at_ s0 ≤ b.length) (hc : 0 ≤ cnt s0) (ho : out s0 = []) :
    ∃ y s, iter F s0 = some y ∧ R s y ∧ I s ∧ Out b (at_ s0) (bad s0) (many p (cnt s0).toNat (at_ s0)) (fun l => (l.length : Int) ≤ b.length + 1 ∧ ∀ x ∈ l, Sz x) (out s) (bs s) (at_ s) (bad s) := by
  obtain ⟨y, h1, s, h2⟩ := iter_ex (f := F) (fun s => I s ∧ bs s = b ∧ (0 ≤ at_ s ∧ at_ s ≤ b.length) ∧ (∀ x ∈ out s, Sz x) ∧
      (bad s = false → ((out s).length : Int) ≤ at_ s ∧ 0 ≤ cnt s ∧ bad s0 = false ∧ many p (cnt s0).toNat (at_ s0) = (many p (cnt s).toNat (at_ s)).map fun r => (out s ++ r.1, r.2)) ∧
      (bad s = true → ((out s).length : Int) ≤ b.length + 1 ∧ (bad s0 = true ∨ many p (cnt s0).toNat (at_ s0) = none)))
    (fun s => if bad s then 0 else (b.length - at_ s).toNat + 1)
    (fun y => ∃ s, R s y ∧ I s ∧ Out b (at_ s0) (bad s0) (many p (cnt s0).toNat (at_ s0)) (fun l => (l.length : Int) ≤ b.length + 1 ∧ ∀ x ∈ l, Sz x) (out s) (bs s) (at_ s) (bad s)) (fun s hP => by
    obtain ⟨i1, i2, i3, i4, i5, i6⟩ := hP
    have hlen : ((out s).length : Int) ≤ b.length + 1 := by
      cases hbd : bad s with
      | false => have := (i5 hbd).1; omega
      | true => exact (i6 hbd).1
    obtain ⟨g1, g2⟩ := hs s i1 i2 i3.1 i3.2 hlen
    by_cases hc : 0 < cnt s ∧ bad s = false
    · obtain ⟨s', x, e1, e2, e3, e4, e5⟩ := g1 hc
      obtain ⟨j1, j2, j3, j4⟩ := i5 hc.2
      refine .inl ⟨s', e1, ⟨e2, e5.eb, ⟨e5.lo, e5.hi⟩, fun z hz => ?_, fun hb' => ?_, fun hb' => ?_⟩, ?_⟩
      · rw [e4] at hz
        rcases List.mem_append.1 hz with hz | hz
        · exact i4 z hz
        · rw [List.mem_singleton.1 hz]; exact e5.sz
      · have ok := e5.ok hc.2
        cases hpa : p (at_ s) with
        | none => rw [hpa] at ok; rw [hb'] at ok; cases ok
        | some r =>
          obtain ⟨x', k⟩ := r
          rw [hpa] at ok
          simp only at ok
          have hst := hp _ _ _ hpa
          refine ⟨by rw [e4]; simp only [List.length_append, List.length_singleton]; omega, by omega, j3, ?_⟩
          rw [j4, show (cnt s).toNat = (cnt s').toNat + 1 by omega, many, hpa]
          simp only
          rw [ok.2.1, e4, ok.1]
          cases many p (cnt s').toNat k with
          | none => rfl
          | some u => simp
      · have ok := e5.ok hc.2
        refine ⟨by rw [e4]; simp only [List.length_append, List.length_singleton]; omega, .inr ?_⟩
        cases hpa : p (at_ s) with
        | none => rw [j4, show (cnt s).toNat = (cnt s').toNat + 1 by omega, many, hpa]; rfl
        | some r =>
          rw [hpa] at ok
          simp only at ok
          rw [hb'] at ok
          cases ok.2.2
      · rw [hc.2]
        have ok := e5.ok hc.2
        cases hb' : bad s' with
        | true => simp
        | false =>
          cases hpa : p (at_ s) with
          | none => rw [hpa] at ok; rw [hb'] at ok; cases ok
          | some r =>
            rw [hpa] at ok
            simp only at ok
            have hst := hp _ _ _ hpa
            simp only [Bool.false_eq_true, if_false]
            have k1 := ok.2.1
            have k2 := e5.hi
            omega
    · obtain ⟨y, e1, e2⟩ := g2 hc
      refine .inr ⟨y, e1, s, e2, i1, i2, i3.1, i3.2, ⟨hlen, i4⟩, fun hb' => ?_, fun hb' => ?_⟩
      · cases hbd : bad s with
        | true => rfl
        | false => have := (i5 hbd).2.2.1; rw [hb'] at this; cases this
      · cases hbd : bad s with
        | true =>
          rcases (i6 hbd).2 with k | k
          · rw [hb'] at k; cases k
          · rw [k]
        | false =>
          obtain ⟨j1, j2, j3, j4⟩ := i5 hbd
          have hz : (cnt s).toNat = 0 := by
            have : ¬ 0 < cnt s := fun k => hc ⟨k, hbd⟩
            omega
          rw [j4, hz, many]
          simp) s0 ⟨h0, hb0, ⟨ha, hb⟩, fun x hx => (by rw [ho] at hx; cases hx), fun hb' => ⟨by rw [ho]; simpa using ha, hc, hb', by
            rw [ho]
            cases many p (cnt s0).toNat (at_ s0) with
            | none => rfl
            | some u => simp⟩, fun hb' => ⟨by rw [ho]; simp; omega, .inl hb'⟩⟩
  exact ⟨y, s, h1, h2⟩

-- The program's reader
theorem i_num {b : List UInt8} (hb : b.length ≤ 1048576) {r : DReader} (h : r.b = b ∧ 0 ≤ r.at_ ∧ r.at_ ≤ b.length) : ∃ n r', x_impl_reader_num r = some (n, r') ∧ Out b r.at_ r.bad (gM b r.at_) pn n r'.b r'.at_ r'.bad := by
  obtain ⟨rb, ra, rbad⟩ := r
  obtain ⟨rfl, h1, h2⟩ := h
  simp only at h1 h2 hb ⊢
  obtain ⟨a, rfl⟩ := Int.eq_ofNat_of_zero_le h1
  unfold x_impl_reader_num
  simp only
  rw [i_GetNum hb a (by omega), Option.bind_some]
  have e : gM rb (a : Int) = if (g3 rb a).2.2 = true then some ((g3 rb a).1, (g3 rb a).2.1) else none := by unfold gM gN; rw [if_pos h1, Int.toNat_natCast]
  rw [e]
  cases hg : (g3 rb a).2.2 with
  | false => exact ⟨_, _, rfl, ⟨rfl, h1, h2, ⟨by omega, by omega⟩, fun _ => rfl, fun _ => rfl⟩⟩
  | true =>
    have g := g3_bd hg
    cases rbad with
    | true => exact ⟨_, _, rfl, ⟨rfl, h1, h2, ⟨by omega, by omega⟩, fun _ => rfl, (fun k => by cases k)⟩⟩
    | false => exact ⟨_, _, rfl, ⟨rfl, by simp only; omega, by simp only; omega, g.1, (fun k => by cases k), fun _ => ⟨rfl, rfl, rfl⟩⟩⟩
theorem s_get {b : List UInt8} (hb : b.length ≤ 1048576) {r : DL21Rd} (h : r.b = b ∧ 0 ≤ r.at_ ∧ r.at_ ≤ b.length) : ∃ n r', x_spec_l21Get r = some (n, r') ∧ Out b r.at_ r.bad (gM b r.at_) pn n r'.b r'.at_ r'.bad := by
  obtain ⟨rb, ra, rbad⟩ := r
  obtain ⟨rfl, h1, h2⟩ := h
  simp only at h1 h2 hb ⊢
  obtain ⟨a, rfl⟩ := Int.eq_ofNat_of_zero_le h1
  unfold x_spec_l21Get
  simp only
  cases rbad with
  | true => exact ⟨_, _, rfl, ⟨rfl, h1, h2, ⟨by omega, by omega⟩, fun _ => rfl, (fun k => by cases k)⟩⟩
  | false =>
    rw [cd_F, s_GetNum hb a (by omega), Option.bind_some]
    have e : gM rb (a : Int) = if (g3 rb a).2.2 = true then some ((g3 rb a).1, (g3 rb a).2.1) else none := by unfold gM gN; rw [if_pos h1, Int.toNat_natCast]
    rw [e]
    cases hg : (g3 rb a).2.2 with
    | false =>
      have g := g3_no hg
      exact ⟨_, _, rfl, ⟨rfl, by simp only; rw [g]; simp, by simp only; rw [g]; simp, by rw [g]; exact ⟨by decide, by decide⟩, (fun k => by cases k), fun _ => by simp []⟩⟩
    | true =>
      have g := g3_bd hg
      exact ⟨_, _, rfl, ⟨rfl, by simp only; omega, by simp only; omega, g.1, (fun k => by cases k), fun _ => ⟨rfl, rfl, by simp []⟩⟩⟩
theorem i_nums {b : List UInt8} (hb : b.length ≤ 1048576) {r : DReader} (h : r.b = b ∧ 0 ≤ r.at_ ∧ r.at_ ≤ b.length) {c : Int} (hc : 0 ≤ c ∧ c ≤ 1114111000) :
    ∃ l r', x_impl_reader_nums r c = some (l, r') ∧ Out b r.at_ r.bad (many (gM b) c.toNat r.at_) (fun l => (l.length : Int) ≤ b.length + 1 ∧ ∀ x ∈ l, pn x) l r'.b r'.at_ r'.bad := by
  unfold x_impl_reader_nums
  obtain ⟨y, s, h1, h2, h3, h4⟩ := loop_gen (F := x_impl_reader_nums_f0 c) b (fun s => c - s.2.1) (fun s => s.2.2.2.1) (fun s => s.2.2.2.2) (fun s => s.2.2.1) (fun s => s.1) (fun s => 0 ≤ s.2.1 ∧ s.2.1 ≤ c) (fun s y => y = (s.1, s.2.2.1, s.2.2.2.1, s.2.2.2.2)) (gM b) pn (gM_str b) (fun s hI e1 a0 a1 hl => by
    obtain ⟨o, i, l, a, bad⟩ := s
    simp only at hI e1 a0 a1 hl ⊢
    subst e1
    unfold x_impl_reader_nums_f0 x_impl_reader_nums_b0
    simp only
    refine ⟨fun hg => ?_, fun hg => ?_⟩
    · obtain ⟨n, r', q1, q2⟩ := i_num hb (r := ⟨l, a, bad⟩) ⟨rfl, a0, a1⟩
      rw [cd_t (by omega), Option.bind_some, hg.2, Bool.not_false, cd_T]
      rw [hg.2] at q1 q2
      rw [q1, Option.bind_some, xg_of (by omega), xg_I (by omega) (by omega)]
      exact ⟨_, n, rfl, ⟨by simp only; omega, by simp only; omega⟩, by simp only; omega, rfl, q2⟩
    · by_cases hi : i < c
      · cases bad with
        | false => exact absurd ⟨by omega, rfl⟩ hg
        | true => rw [cd_t hi, Option.bind_some, Bool.not_true, cd_F]; exact ⟨_, rfl, rfl⟩
      · rw [cd_f hi, Option.bind_some, cd_F]; exact ⟨_, rfl, rfl⟩) ([], 0, r.b, r.at_, r.bad) ⟨by simp, hc.1⟩ h.1 h.2.1 h.2.2 (by simp only; omega) rfl
  rw [h1, Option.bind_some, h2]
  simp only [Int.sub_zero] at h4
  exact ⟨_, _, rfl, h4⟩
theorem s_signs {b : List UInt8} (hb : b.length ≤ 1048576) {r : DL21Rd} (h : r.b = b ∧ 0 ≤ r.at_ ∧ r.at_ ≤ b.length) {c : Int} (hc : 0 ≤ c ∧ c ≤ 1114111000) :
    ∃ l r', x_spec_l21Signs r c = some (l, r') ∧ Out b r.at_ r.bad (many (gM b) c.toNat r.at_) (fun l => (l.length : Int) ≤ b.length + 1 ∧ ∀ x ∈ l, pn x) l r'.b r'.at_ r'.bad := by
  unfold x_spec_l21Signs
  obtain ⟨y, s, h1, h2, h3, h4⟩ := loop_gen (F := x_spec_l21Signs_f0) b (fun s => s.1) (fun s => s.2.2.2.1) (fun s => s.2.2.2.2) (fun s => s.2.2.1) (fun s => s.2.1) (fun s => -1 ≤ s.1 ∧ s.1 ≤ c) (fun s y => y = (s.2.1, s.2.2.1, s.2.2.2.1, s.2.2.2.2)) (gM b) pn (gM_str b) (fun s hI e1 a0 a1 hl => by
    obtain ⟨i, o, l, a, bad⟩ := s
    simp only at hI e1 a0 a1 hl ⊢
    subst e1
    unfold x_spec_l21Signs_f0 x_spec_l21Signs_b0
    simp only
    refine ⟨fun hg => ?_, fun hg => ?_⟩
    · obtain ⟨n, r', q1, q2⟩ := s_get hb (r := ⟨l, a, bad⟩) ⟨rfl, a0, a1⟩
      rw [cd_t hg.1, Option.bind_some, hg.2, Bool.not_false, cd_T]
      rw [hg.2] at q1 q2
      rw [q1, Option.bind_some, xg_of (by omega), xg_I (by omega) (by omega)]
      exact ⟨_, n, rfl, ⟨by simp only; omega, by simp only; omega⟩, rfl, rfl, q2⟩
    · by_cases hi : 0 < i
      · cases bad with
        | false => exact absurd ⟨hi, rfl⟩ hg
        | true => rw [cd_t hi, Option.bind_some, Bool.not_true, cd_F]; exact ⟨_, rfl, rfl⟩
      · rw [cd_f hi, Option.bind_some, cd_F]; exact ⟨_, rfl, rfl⟩) (c, [], r.b, r.at_, r.bad) ⟨by simp only; omega, Int.le_refl _⟩ h.1 h.2.1 h.2.2 hc.1 rfl
  rw [h1, Option.bind_some, h2]
  exact ⟨_, _, rfl, h4⟩
def cntP (b : List UInt8) (m : Int) : Ps Int := fun a => match gM b a with
  | none => none
  | some (n, k) => if m < n then none else some (n, k)
theorem s_count {b : List UInt8} (hb : b.length ≤ 1048576) {r : DL21Rd} (h : r.b = b ∧ 0 ≤ r.at_ ∧ r.at_ ≤ b.length) {m : Int} (hm : 0 ≤ m) :
    ∃ n r', x_spec_l21Count r m = some (n, r') ∧ Out b r.at_ r.bad (cntP b m r.at_) (fun n => pn n ∧ n ≤ m) n r'.b r'.at_ r'.bad := by
  obtain ⟨n, r', q1, q2⟩ := s_get hb h
  unfold x_spec_l21Count
  rw [q1, Option.bind_some]
  simp only
  have hz := q2.sz
  by_cases hn : m < n
  · rw [cd_t hn]
    refine ⟨_, _, rfl, ⟨q2.eb, q2.lo, q2.hi, ⟨⟨by omega, by omega⟩, hm⟩, fun _ => rfl, fun e => ?_⟩⟩
    have ok := q2.ok e
    unfold cntP
    cases hg : gM b r.at_ with
    | none => rfl
    | some u => rw [hg] at ok; simp only at ok ⊢; rw [← ok.1, if_pos hn]; exact trivial
  · rw [cd_f hn]
    refine ⟨_, _, rfl, ⟨q2.eb, q2.lo, q2.hi, ⟨hz, by omega⟩, q2.kb, fun e => ?_⟩⟩
    have ok := q2.ok e
    unfold cntP
    cases hg : gM b r.at_ with
    | none => rw [hg] at ok; exact ok
    | some u => rw [hg] at ok; simp only at ok ⊢; rw [← ok.1, if_neg hn]; exact ⟨rfl, ok.2⟩
end Go.Proofs.Ytmcakofnolmhpaa
