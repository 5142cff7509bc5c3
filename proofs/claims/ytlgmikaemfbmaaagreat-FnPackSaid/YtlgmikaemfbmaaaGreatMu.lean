/- Composed and led past: the loops of the program. No condition. -/
import Derived.Test.YtlgmikaemfbmaaaGreatMb
namespace Go.Proofs.YtlgmikaemfbmaaaGreat

theorem J.skpL {f : Int} {a b : List DPart} (h : J f a b) : J f (Go.Proofs.YtlgmikaemfbmaaaGreat.skp a) b := ⟨skp_oks h.oa, h.ob, h.skp.la, h.lb, by rw [mid_skp]; exact h.m⟩
theorem tr_L {f : Int} {p : DPart} {r b : List DPart} (h : J f (p :: r) b) (h0 : pSz p ≠ 0) (hk : p.kind = f) : tr f (p :: r) b = (some (pCut p (pSz p)), none) :: tr f (pRst p (pSz p) :: r) b := by
  have e : stp f (skp (p :: r)) (skp b) = some ((some (pCut p (pSz p)), none), pRst p (pSz p) :: r, skp b) := by
    rw [skp_n h0]
    cases skp b <;> simp only [stp, if_pos hk]
  rw [tr_some h e, tr_skp rfl (skp_skp b)]
theorem tr_R {f : Int} {q : DPart} {a t : List DPart} (h : J f a (q :: t)) (h0 : pSz q ≠ 0) (hk : q.kind = 2) (ha : ∀ p r, skp a = p :: r → p.kind ≠ f) : tr f a (q :: t) = (none, some (pCut q (pSz q))) :: tr f a (pRst q (pSz q) :: t) := by
  have e : stp f (skp a) (skp (q :: t)) = some ((none, some (pCut q (pSz q))), skp a, pRst q (pSz q) :: t) := by
    rw [skp_n h0]
    cases hA : skp a with
    | nil => simp only [stp, if_pos hk]
    | cons p r => simp only [stp, if_neg (ha p r hA), if_pos hk]
  rw [tr_some h e, tr_skp (skp_skp a) rfl]
theorem tr_B {f : Int} {p q : DPart} {r t : List DPart} (h : J f (p :: r) (q :: t)) (h0 : pSz p ≠ 0) (h1 : pSz q ≠ 0) (hk : p.kind ≠ f) (hk2 : q.kind ≠ 2) {n : Int} (hn : n = min (pSz p) (pSz q)) :
    tr f (p :: r) (q :: t) = (some (pCut p n), some (pCut q n)) :: tr f (pRst p n :: r) (pRst q n :: t) := by
  subst hn
  exact tr_some h (by rw [skp_n h0, skp_n h1]; simp only [stp, if_neg hk, if_neg hk2])
theorem tr_E {f : Int} {a b : List DPart} (h0 : skp a = []) (h1 : skp b = []) : tr f a b = [] := tr_none (by rw [h0, h1]; rfl)
theorem tr_sk {f : Int} {a b : List DPart} : tr f (skp a) (skp b) = tr f a b := tr_skp (skp_skp a) (skp_skp b)
theorem tr_skL {f : Int} {a b : List DPart} : tr f (skp a) b = tr f a b := tr_skp (skp_skp a) rfl
def emX : Em → List DPart
  | (some p, some q) => if q.kind = 1 then [p] else []
  | (some p, none) => [p]
  | (none, some q) => [⟨1, q.signs.length, []⟩]
  | (none, none) => []
def emY : Em → List DPart
  | (some p, some q) => if p.kind = 1 then [q] else []
  | (some p, none) => [⟨1, p.signs.length, []⟩]
  | (none, some q) => [q]
  | (none, none) => []
def rawX (a b : List DPart) : List DPart := (tr 2 a b).flatMap emX
def rawY (a b : List DPart) : List DPart := (tr 2 a b).flatMap emY

/-- What may come next. -/
theorem tr_cases {f : Int} {a b : List DPart} (h : J f a b) :
    (skp a = [] ∧ skp b = [] ∧ tr f a b = []) ∨
    (∃ p r, skp a = p :: r ∧ p.kind = f ∧ okPart p = true ∧ (p :: r).length ≤ 600 ∧ J f (pRst p (pSz p) :: r) b ∧ szs (pRst p (pSz p) :: r) + szs b < szs a + szs b ∧ tr f a b = (some (pCut p (pSz p)), none) :: tr f (pRst p (pSz p) :: r) b) ∨
    (∃ q t, skp b = q :: t ∧ q.kind = 2 ∧ okPart q = true ∧ (q :: t).length ≤ 600 ∧ (skp a = [] ∨ ∃ p r, skp a = p :: r ∧ p.kind ≠ f ∧ p.kind ≠ 0) ∧ J f (skp a) (pRst q (pSz q) :: t) ∧ szs (skp a) + szs (pRst q (pSz q) :: t) < szs a + szs b ∧ tr f a b = (none, some (pCut q (pSz q))) :: tr f (skp a) (pRst q (pSz q) :: t)) ∨
    (∃ p r q t n, skp a = p :: r ∧ skp b = q :: t ∧ p.kind ≠ f ∧ q.kind ≠ 2 ∧ okPart p = true ∧ okPart q = true ∧ (p :: r).length ≤ 600 ∧ (q :: t).length ≤ 600 ∧ min (pSz p) (pSz q) = n ∧ 0 ≤ n ∧ n ≤ pSz p ∧ n ≤ pSz q ∧ J f (pRst p n :: r) (pRst q n :: t) ∧ szs (pRst p n :: r) + szs (pRst q n :: t) < szs a + szs b ∧ tr f a b = (some (pCut p n), some (pCut q n)) :: tr f (pRst p n :: r) (pRst q n :: t)) := by
  have hs := h.skp
  have z1 := szs_skp a
  have z2 := szs_skp b
  cases hA : skp a with
  | nil =>
    rw [hA] at hs z1
    cases hB : skp b with
    | nil => exact .inl ⟨rfl, rfl, tr_E hA hB⟩
    | cons q t =>
      rw [hB] at hs z2
      have hq := skp_cons hB
      have hk := hs.no_left hq
      have ok := oks_hd hs.ob
      have g := hs.right hk
      have bq := pSz_bd ok
      exact .inr (.inr (.inl ⟨q, t, rfl, hk, ok, hs.lb, .inl rfl, g.1, by omega, by rw [← tr_sk, hA, hB, tr_R hs hq hk (fun p r hp => by cases hp)]⟩))
  | cons p r =>
    rw [hA] at hs z1
    have hp := skp_cons hA
    have okp := oks_hd hs.oa
    have bp := pSz_bd okp
    by_cases hk : p.kind = f
    · have h' : J f (p :: r) b := by have := h.skpL; rw [hA] at this; exact this
      have g := h'.left hk
      exact .inr (.inl ⟨p, r, rfl, hk, okp, hs.la, g.1, by omega, by rw [← tr_skL, hA, tr_L h' hp hk]⟩)
    · have k0 : p.kind ≠ 0 := by
        rcases okPart_cases okp with ⟨g1, _⟩ | ⟨g1, _⟩ | ⟨g1, _⟩ <;> omega
      cases hB : skp b with
      | nil =>
        rw [hB] at hs
        exact absurd (hs.no_right hp) hk
      | cons q t =>
        rw [hB] at hs z2
        have hq := skp_cons hB
        have okq := oks_hd hs.ob
        have bq := pSz_bd okq
        by_cases hk2 : q.kind = 2
        · have g := hs.right hk2
          exact .inr (.inr (.inl ⟨q, t, rfl, hk2, okq, hs.lb, .inr ⟨p, r, rfl, hk, k0⟩, g.1, by omega, by rw [← tr_sk, hA, hB, tr_R hs hq hk2 (fun p' r' hp' => by rw [skp_n hp] at hp'; cases hp'; exact hk)]⟩))
        · have g := hs.both hk hk2 rfl
          exact .inr (.inr (.inr ⟨p, r, q, t, _, rfl, rfl, hk, hk2, okp, okq, hs.la, hs.lb, rfl, g.2.2.2.1, g.2.2.2.2.1, g.2.2.2.2.2, g.1, by omega, by rw [← tr_sk, hA, hB, tr_B hs hp hq hk hk2 rfl]⟩))

/-- A loop that goes along two changes. -/
theorem loop_tr {σ ρ : Type} {f : Int} {F : σ → Option (Lr σ ρ)} (A B : σ → List DPart) (P : σ → Prop) (G : σ → List Em → ρ)
    (hs : ∀ s, P s → J f (A s) (B s) →
      (∃ e s', F s = some (.go s') ∧ P s' ∧ J f (A s') (B s') ∧ szs (A s') + szs (B s') < szs (A s) + szs (B s) ∧ tr f (A s) (B s) = e :: tr f (A s') (B s') ∧ ∀ l, G s (e :: l) = G s' l) ∨
      (F s = some (.out (G s [])) ∧ tr f (A s) (B s) = [])) (s : σ) (h : P s) (h1 : J f (A s) (B s)) : iter F s = some (G s (tr f (A s) (B s))) :=
  iter_go (f := F) (fun s => P s ∧ J f (A s) (B s)) (fun s => (szs (A s) + szs (B s)).toNat) (fun s => G s (tr f (A s) (B s))) (fun s hP => by
    rcases hs s hP.1 hP.2 with ⟨e, s', g1, g2, g3, g4, g5, g6⟩ | ⟨g1, g2⟩
    · have n1 := szs_nn g3.oa
      have n2 := szs_nn g3.ob
      exact .inl ⟨s', g1, ⟨g2, g3⟩, by omega, by rw [g5, g6]⟩
    · exact .inr (by rw [g1, g2])) s ⟨h, h1⟩
theorem emX_len (e : Em) : (emX e).length ≤ 1 := by
  obtain ⟨_ | p, _ | q⟩ := e <;> simp only [emX] <;> (try split) <;> simp
theorem emY_len (e : Em) : (emY e).length ≤ 1 := by
  obtain ⟨_ | p, _ | q⟩ := e <;> simp only [emY] <;> (try split) <;> simp

section
variable {a b r t : List DPart} {p q : DPart} {n : Int}
theorem k_ne0 (h : okPart p = true) : p.kind ≠ 0 := by
  rcases okPart_cases h with ⟨g1, _⟩ | ⟨g1, _⟩ | ⟨g1, _⟩ <;> omega
end

section
variable {x y : List DPart}
end
theorem tr_all {f : Int} (Q : Em → Prop) (hL : ∀ p, okPart p = true → Q (some p, none)) (hR : ∀ p, okPart p = true → Q (none, some p)) (hT : ∀ p q, okPart p = true → okPart q = true → Q (some p, some q)) :
    ∀ (n : Nat) {a b : List DPart}, J f a b → szs a + szs b ≤ n → (∀ e ∈ tr f a b, Q e) ∧ (tr f a b).length ≤ n := by
  intro n
  induction n with
  | zero =>
    intro a b h hz
    have n1 := szs_nn h.oa
    have n2 := szs_nn h.ob
    rw [tr_E (zero_skp h.oa (by omega)) (zero_skp h.ob (by omega))]
    exact ⟨fun e he => (by cases he), by simp⟩
  | succ n ih =>
    intro a b h hz
    rcases tr_cases h with ⟨hA, hB, ht⟩ | ⟨p, r, hA, hk, ok, hl, g1, g2, ht⟩ | ⟨q, t, hB, hk, ok, hl, hA, g1, g2, ht⟩ | ⟨p, r, q, t, n, hA, hB, hk, hk2, okp, okq, hl, hl2, hn, h0, h1, h2, g1, g2, ht⟩ <;> rw [ht]
    · exact ⟨fun e he => (by cases he), by simp⟩
    · have g := ih g1 (by omega)
      refine ⟨fun e he => ?_, by simp only [List.length_cons]; omega⟩
      rcases List.mem_cons.1 he with rfl | he
      · exact hL _ (cut_ok ok (pSz_bd ok).1 (Int.le_refl _)).1
      · exact g.1 e he
    · have g := ih g1 (by omega)
      refine ⟨fun e he => ?_, by simp only [List.length_cons]; omega⟩
      rcases List.mem_cons.1 he with rfl | he
      · exact hR _ (cut_ok ok (pSz_bd ok).1 (Int.le_refl _)).1
      · exact g.1 e he
    · have g := ih g1 (by omega)
      refine ⟨fun e he => ?_, by simp only [List.length_cons]; omega⟩
      rcases List.mem_cons.1 he with rfl | he
      · exact hT _ _ (cut_ok okp h0 h1).1 (cut_ok okq h0 h2).1
      · exact g.1 e he
theorem flat_ok {g : Em → List DPart} {l : List Em} (h1 : ∀ e ∈ l, ∀ p ∈ g e, okPart p = true) (h2 : ∀ e, (g e).length ≤ 1) : (∀ p ∈ l.flatMap g, okPart p = true) ∧ (l.flatMap g).length ≤ l.length := by
  refine ⟨fun p hp => ?_, ?_⟩
  · obtain ⟨e, he, hp⟩ := List.mem_flatMap.1 hp
    exact h1 e he p hp
  · induction l with
    | nil => simp
    | cons e l ih =>
      have := ih (fun e' he' => h1 e' (by simp [he']))
      have := h2 e
      simp only [List.flatMap_cons, List.length_append, List.length_cons]; omega
theorem okp_len {p : DPart} (h : okPart p = true) : okPart ⟨1, p.signs.length, []⟩ = true := okp1 (.inl rfl) (by omega) (by have := okPart_len h; omega)
theorem rawX_ok {a b : List DPart} (h : J 2 a b) (hl : szs a + szs b ≤ 100000) : (∀ p ∈ rawX a b, okPart p = true) ∧ (rawX a b).length ≤ 100000 := by
  have g := tr_all (f := 2) (fun e => ∀ p ∈ emX e, okPart p = true) (fun p hp q hq => by simp only [emX, List.mem_singleton] at hq; subst hq; exact hp) (fun p hp q hq => by simp only [emX, List.mem_singleton] at hq; subst hq; exact okp_len hp)
    (fun p q hp hq x hx => by
      simp only [emX] at hx
      split at hx
      · simp only [List.mem_singleton] at hx; subst hx; exact hp
      · cases hx) 100000 h (by omega)
  have k := flat_ok g.1 emX_len
  exact ⟨k.1, by unfold rawX; omega⟩
theorem rawY_ok {a b : List DPart} (h : J 2 a b) (hl : szs a + szs b ≤ 100000) : (∀ p ∈ rawY a b, okPart p = true) ∧ (rawY a b).length ≤ 100000 := by
  have g := tr_all (f := 2) (fun e => ∀ p ∈ emY e, okPart p = true) (fun p hp q hq => by simp only [emY, List.mem_singleton] at hq; subst hq; exact okp_len hp) (fun p hp q hq => by simp only [emY, List.mem_singleton] at hq; subst hq; exact hp)
    (fun p q hp hq x hx => by
      simp only [emY] at hx
      split at hx
      · simp only [List.mem_singleton] at hx; subst hx; exact hq
      · cases hx) 100000 h (by omega)
  have k := flat_ok g.1 emY_len
  exact ⟨k.1, by unfold rawY; omega⟩

def ledX (a b : List DPart) : List DPart := nrm (rawX a b)
def ledY (a b : List DPart) : List DPart := nrm (rawY a b)
theorem okOp_oks {o : List DPart} (h : okOp o = true) : oks o ∧ o.length ≤ 600 ∧ szs o ≤ 600 := by
  have h1 := okOp_parts h
  have h2 := okOp_all h
  have h3 : oks o := fun p hp => okParts_mem h1 hp
  exact ⟨h3, okParts_len h1, by rw [szs_sum h3]; omega⟩
theorem J2 {a b : List DPart} (ha : okOp a = true) (hb : okOp b = true) (h : fromOf a = fromOf b) : J 2 a b ∧ szs a + szs b ≤ 100000 := by
  have h1 := okOp_oks ha
  have h2 := okOp_oks hb
  exact ⟨⟨h1.1, h2.1, h1.2.1, h2.2.1, by rw [mid_from h1.1, mid_from h2.1, h]⟩, by omega⟩
def led (a b : List DPart) : List DPart × List DPart × Bool := if okOp a = true ∧ okOp b = true ∧ fromOf a = fromOf b ∧ okOp (ledX a b) = true ∧ okOp (ledY a b) = true then (ledX a b, ledY a b, true) else ([], [], false)

theorem cut_sl {p : DPart} {n : Int} (ok : okPart p = true) (hk : p.kind = 2) (h0 : 0 ≤ n) (h1 : n ≤ pSz p) : ((pCut p n).signs.length : Int) = n := by
  have g := cut_ok ok h0 h1
  have g2 := g.2.2.1
  unfold pSz at g2
  rcases okPart_cases g.1 with ⟨g1, _⟩ | ⟨_, g3, _⟩ | ⟨g1, _⟩ <;> omega
end Go.Proofs.YtlgmikaemfbmaaaGreat
