/- Two changes side by side: composed, or each led past the other. The program and the reference do alike. No condition. -/
import Derived.Test.YtlgmikaemfbmaaaGreatMh
import Derived.Test.YtlgmikaemfbmaaaGreatMk
import Derived.Test.YtlgmikaemfbmaaaGreatGU
namespace Go.Proofs.YtlgmikaemfbmaaaGreat

def oks (l : List DPart) : Prop := ∀ p ∈ l, okPart p = true
theorem oks_nil : oks [] := fun _ h => by cases h
theorem oks_hd {p : DPart} {r : List DPart} (h : oks (p :: r)) : okPart p = true := h p (by simp)
theorem oks_tl {p : DPart} {r : List DPart} (h : oks (p :: r)) : oks r := fun q hq => h q (by simp [hq])
theorem oks_cons {p : DPart} {r : List DPart} (h : okPart p = true) (k : oks r) : oks (p :: r) := fun q hq => by
  rcases List.mem_cons.1 hq with rfl | hq
  · exact h
  · exact k q hq
def pSz (p : DPart) : Int := p.n + p.signs.length
theorem pSz_bd {p : DPart} (h : okPart p = true) : 0 ≤ pSz p ∧ pSz p ≤ 200 := by
  unfold pSz
  rcases okPart_cases h with ⟨_, h2, h3, h4⟩ | ⟨_, h2, h3, _⟩ | ⟨_, h2, h3, h4⟩
  · rw [h4]; simp; omega
  · omega
  · rw [h4]; simp; omega
def pCut (p : DPart) (n : Int) : DPart := if p.kind = 2 then ⟨p.kind, p.n, (p.signs.take n.toNat).drop 0⟩ else ⟨p.kind, n, p.signs⟩
def pRst (p : DPart) (n : Int) : DPart := if p.kind = 2 then ⟨p.kind, p.n, (p.signs.take p.signs.length).drop n.toNat⟩ else ⟨p.kind, p.n - n, p.signs⟩
theorem okp1 {k n : Int} (hk : k = 1 ∨ k = 3) (h0 : 0 ≤ n) (h1 : n ≤ 200) : okPart ⟨k, n, []⟩ = true := by unfold okPart; simp [hk, h0, h1]
theorem okp2 {s : List Int} (h0 : s.length ≤ 200) (h1 : s.all okSign = true) : okPart ⟨2, 0, s⟩ = true := by
  unfold okPart
  rw [if_neg (by simp), if_pos (by rfl)]
  rw [Bool.and_eq_true]
  exact ⟨decide_eq_true ⟨rfl, h0⟩, h1⟩
theorem all_sub {l : List Int} (h : l.all okSign = true) {s : List Int} (hs : ∀ x ∈ s, x ∈ l) : s.all okSign = true := List.all_eq_true.2 fun x hx => List.all_eq_true.1 h x (hs x hx)
theorem cut_ok {p : DPart} {n : Int} (h : okPart p = true) (h0 : 0 ≤ n) (h1 : n ≤ pSz p) : okPart (pCut p n) = true ∧ (pCut p n).kind = p.kind ∧ pSz (pCut p n) = n ∧ okPart (pRst p n) = true ∧ (pRst p n).kind = p.kind ∧ pSz (pRst p n) = pSz p - n := by
  obtain ⟨k, m, s⟩ := p
  unfold pSz pCut pRst at *
  simp only at h1
  rcases okPart_cases h with ⟨g1, g2, g3, g4⟩ | ⟨g1, g2, g3, g4⟩ | ⟨g1, g2, g3, g4⟩ <;> simp only at g1 g2 g3 g4
  · subst g1 g4
    simp only [List.length_nil] at h1
    rw [if_neg (by simp), if_neg (by simp)]
    dsimp only at *
    exact ⟨okp1 (.inl rfl) h0 (by omega), rfl, by simp, okp1 (.inl rfl) (by omega) (by omega), rfl, by simp⟩
  · subst g1 g2
    rw [if_pos rfl, if_pos rfl]
    refine ⟨okp2 (by simp; omega) (all_sub g4 fun x hx => ?_), rfl, by simp; omega, okp2 (by simp; omega) (all_sub g4 fun x hx => ?_), rfl, by simp; omega⟩
    · rw [List.drop_zero] at hx; exact List.mem_of_mem_take hx
    · rw [List.take_length] at hx; exact List.mem_of_mem_drop hx
  · subst g1 g4
    simp only [List.length_nil] at h1
    rw [if_neg (by simp), if_neg (by simp)]
    dsimp only at *
    exact ⟨okp1 (.inr rfl) h0 (by omega), rfl, by simp, okp1 (.inr rfl) (by omega) (by omega), rfl, by simp⟩

def skp : List DPart → List DPart
  | [] => []
  | p :: r => if pSz p = 0 then skp r else p :: r
theorem skp_z {p : DPart} {r : List DPart} (h : pSz p = 0) : skp (p :: r) = skp r := by rw [skp, if_pos h]
theorem skp_n {p : DPart} {r : List DPart} (h : pSz p ≠ 0) : skp (p :: r) = p :: r := by rw [skp, if_neg h]
theorem skp_skp : ∀ l : List DPart, skp (skp l) = skp l
  | [] => rfl
  | p :: r => by
    by_cases h : pSz p = 0
    · rw [skp_z h]; exact skp_skp r
    · rw [skp_n h, skp_n h]
theorem skp_len (q : List DPart) : (skp q).length ≤ q.length := by
  induction q with
  | nil => simp [skp]
  | cons x q ih => unfold skp; split <;> simp <;> omega
theorem skp_cons {l : List DPart} {p : DPart} {r : List DPart} (h : skp l = p :: r) : pSz p ≠ 0 := fun h0 => by
  have h2 := skp_skp l
  rw [h, skp_z h0] at h2
  have h3 := skp_len r
  rw [h2] at h3
  simp at h3
  omega
theorem skp_oks : ∀ {l : List DPart}, oks l → oks (skp l)
  | [], h => h
  | p :: r, h => by
    unfold skp
    split
    · exact skp_oks (oks_tl h)
    · exact h
def pMid (f : Int) (p : DPart) : Int := if p.kind = f then 0 else pSz p
def midOf (f : Int) (l : List DPart) : Int := sumI (pMid f) l
def szs (l : List DPart) : Int := sumI pSz l
theorem mid_cons (f : Int) (p : DPart) (r : List DPart) : midOf f (p :: r) = pMid f p + midOf f r := rfl
theorem szs_cons (p : DPart) (r : List DPart) : szs (p :: r) = pSz p + szs r := rfl
theorem mid_nn {f : Int} {l : List DPart} (h : oks l) : 0 ≤ midOf f l := sumI_nn fun x hx => by
  have := pSz_bd (h x hx); unfold pMid; split <;> omega
theorem szs_nn {l : List DPart} (h : oks l) : 0 ≤ szs l := sumI_nn fun x hx => (pSz_bd (h x hx)).1
theorem mid_skp (f : Int) : ∀ l : List DPart, midOf f (skp l) = midOf f l
  | [] => rfl
  | p :: r => by
    unfold skp
    split
    · rename_i h; rw [mid_cons, mid_skp f r]; unfold pMid; split <;> omega
    · rfl
theorem szs_skp : ∀ l : List DPart, szs (skp l) = szs l
  | [] => rfl
  | p :: r => by
    unfold skp
    split
    · rename_i h; rw [szs_cons, szs_skp r]; omega
    · rfl
theorem mid_from {l : List DPart} (h : oks l) : midOf 2 l = fromOf l := sumI_congr fun p hp => by
  unfold pMid pFrom pKeep pDrop pSz
  rcases okPart_cases (h p hp) with ⟨g1, g2, g3, g4⟩ | ⟨g1, g2, g3, g4⟩ | ⟨g1, g2, g3, g4⟩ <;> simp [g1, g4]
theorem szs_sum {l : List DPart} (h : oks l) : szs l = keepsOf l + putsOf l + dropsOf l := by
  unfold keepsOf putsOf dropsOf
  induction l with
  | nil => rfl
  | cons p r ih =>
    rw [szs_cons, ih (oks_tl h)]
    have e : pSz p = pKeep p + pPut p + pDrop p := by
      unfold pKeep pPut pDrop pSz
      rcases okPart_cases (oks_hd h) with ⟨g1, g2, g3, g4⟩ | ⟨g1, g2, g3, g4⟩ | ⟨g1, g2, g3, g4⟩ <;> simp [g1, g2, g4]
    simp only [sumI]
    omega

-- one step
abbrev Em := Option DPart × Option DPart
def stp (f : Int) : List DPart → List DPart → Option (Em × List DPart × List DPart)
  | [], [] => none
  | [], q :: t => if q.kind = 2 then some ((none, some (pCut q (pSz q))), [], pRst q (pSz q) :: t) else none
  | p :: r, [] => if p.kind = f then some ((some (pCut p (pSz p)), none), pRst p (pSz p) :: r, []) else none
  | p :: r, q :: t => if p.kind = f then some ((some (pCut p (pSz p)), none), pRst p (pSz p) :: r, q :: t)
    else if q.kind = 2 then some ((none, some (pCut q (pSz q))), p :: r, pRst q (pSz q) :: t)
    else some ((some (pCut p (min (pSz p) (pSz q))), some (pCut q (min (pSz p) (pSz q)))), pRst p (min (pSz p) (pSz q)) :: r, pRst q (min (pSz p) (pSz q)) :: t)

structure J (f : Int) (a b : List DPart) : Prop where
  oa : oks a
  ob : oks b
  la : a.length ≤ 600
  lb : b.length ≤ 600
  m : midOf f a = midOf 2 b
theorem J.skp {f : Int} {a b : List DPart} (h : J f a b) : J f (skp a) (skp b) := ⟨skp_oks h.oa, skp_oks h.ob, by have := skp_len a; have := h.la; omega, by have := skp_len b; have := h.lb; omega, by rw [mid_skp, mid_skp]; exact h.m⟩
theorem pMid_f {f : Int} {p : DPart} (h : p.kind = f) : pMid f p = 0 := if_pos h
theorem pMid_n {f : Int} {p : DPart} (h : p.kind ≠ f) : pMid f p = pSz p := if_neg h
theorem pMid_rst {f : Int} {p : DPart} {n : Int} (h : okPart p = true) (h0 : 0 ≤ n) (h1 : n ≤ pSz p) (hk : p.kind ≠ f) : pMid f (pRst p n) = pMid f p - n := by
  have g := cut_ok h h0 h1
  rw [pMid_n hk, pMid_n (by rw [g.2.2.2.2.1]; exact hk), g.2.2.2.2.2]
theorem pMid_rst0 {f : Int} {p : DPart} {n : Int} (h : okPart p = true) (h0 : 0 ≤ n) (h1 : n ≤ pSz p) (hk : p.kind = f) : pMid f (pRst p n) = pMid f p := by
  have g := cut_ok h h0 h1
  rw [pMid_f hk, pMid_f (by rw [g.2.2.2.2.1]; exact hk)]
/-- The left one moves by itself. -/
theorem J.left {f : Int} {p : DPart} {r b : List DPart} (h : J f (p :: r) b) (hk : p.kind = f) : J f (pRst p (pSz p) :: r) b ∧ szs (pRst p (pSz p) :: r) = szs (p :: r) - pSz p := by
  have ho := oks_hd h.oa
  have hb := pSz_bd ho
  have g := cut_ok ho hb.1 (Int.le_refl _)
  refine ⟨⟨oks_cons g.2.2.2.1 (oks_tl h.oa), h.ob, by have := h.la; simpa using this, h.lb, ?_⟩, by rw [szs_cons, szs_cons, g.2.2.2.2.2]; omega⟩
  rw [← h.m, mid_cons, mid_cons, pMid_rst0 ho hb.1 (Int.le_refl _) hk]
theorem J.right {f : Int} {q : DPart} {a t : List DPart} (h : J f a (q :: t)) (hk : q.kind = 2) : J f a (pRst q (pSz q) :: t) ∧ szs (pRst q (pSz q) :: t) = szs (q :: t) - pSz q := by
  have ho := oks_hd h.ob
  have hb := pSz_bd ho
  have g := cut_ok ho hb.1 (Int.le_refl _)
  refine ⟨⟨h.oa, oks_cons g.2.2.2.1 (oks_tl h.ob), h.la, by have := h.lb; simpa using this, ?_⟩, by rw [szs_cons, szs_cons, g.2.2.2.2.2]; omega⟩
  rw [h.m, mid_cons, mid_cons, pMid_rst0 ho hb.1 (Int.le_refl _) hk]
theorem J.both {f : Int} {p q : DPart} {r t : List DPart} (h : J f (p :: r) (q :: t)) (hk : p.kind ≠ f) (hk2 : q.kind ≠ 2) {n : Int} (hn : n = min (pSz p) (pSz q)) :
    J f (pRst p n :: r) (pRst q n :: t) ∧ szs (pRst p n :: r) = szs (p :: r) - n ∧ szs (pRst q n :: t) = szs (q :: t) - n ∧ 0 ≤ n ∧ n ≤ pSz p ∧ n ≤ pSz q := by
  have hp := oks_hd h.oa
  have hq := oks_hd h.ob
  have h1 := pSz_bd hp
  have h2 := pSz_bd hq
  have h3 : 0 ≤ n ∧ n ≤ pSz p ∧ n ≤ pSz q := by omega
  have g := cut_ok hp h3.1 h3.2.1
  have g' := cut_ok hq h3.1 h3.2.2
  refine ⟨⟨oks_cons g.2.2.2.1 (oks_tl h.oa), oks_cons g'.2.2.2.1 (oks_tl h.ob), by have := h.la; simpa using this, by have := h.lb; simpa using this, ?_⟩, by rw [szs_cons, szs_cons, g.2.2.2.2.2]; omega, by rw [szs_cons, szs_cons, g'.2.2.2.2.2]; omega, h3⟩
  have := h.m
  rw [mid_cons, mid_cons] at *
  rw [pMid_rst hp h3.1 h3.2.1 hk, pMid_rst hq h3.1 h3.2.2 hk2]
  omega
theorem J.no_right {f : Int} {p : DPart} {r : List DPart} (h : J f (p :: r) []) (h0 : pSz p ≠ 0) : p.kind = f := by
  by_cases hk : p.kind = f
  · exact hk
  · have h1 := h.m
    have h2 := mid_nn (f := f) (oks_tl h.oa)
    have h3 := pSz_bd (oks_hd h.oa)
    rw [mid_cons, pMid_n hk] at h1
    have : midOf 2 [] = 0 := rfl
    omega
theorem J.no_left {f : Int} {q : DPart} {t : List DPart} (h : J f [] (q :: t)) (h0 : pSz q ≠ 0) : q.kind = 2 := by
  by_cases hk : q.kind = 2
  · exact hk
  · have h1 := h.m
    have h2 := mid_nn (f := 2) (oks_tl h.ob)
    have h3 := pSz_bd (oks_hd h.ob)
    rw [mid_cons, pMid_n hk] at h1
    have : midOf f [] = 0 := rfl
    omega

theorem stp_less {f : Int} {a b a' b' : List DPart} {e : Em} (h : J f a b) (ha : ∀ p r, a = p :: r → pSz p ≠ 0) (hb : ∀ p r, b = p :: r → pSz p ≠ 0) (hs : stp f a b = some (e, a', b')) : J f a' b' ∧ szs a' + szs b' < szs a + szs b := by
  cases a with
  | nil =>
    cases b with
    | nil => cases hs
    | cons q t =>
      simp only [stp] at hs
      split at hs
      · rename_i hk
        simp only [Option.some.injEq, Prod.mk.injEq] at hs
        obtain ⟨_, rfl, rfl⟩ := hs
        have g := h.right hk
        have := pSz_bd (oks_hd h.ob); have := hb q t rfl
        exact ⟨g.1, by omega⟩
      · cases hs
  | cons p r =>
    have h1 := pSz_bd (oks_hd h.oa); have h2 := ha p r rfl
    cases b with
    | nil =>
      simp only [stp] at hs
      split at hs
      · rename_i hk
        simp only [Option.some.injEq, Prod.mk.injEq] at hs
        obtain ⟨_, rfl, rfl⟩ := hs
        have g := h.left hk
        exact ⟨g.1, by omega⟩
      · cases hs
    | cons q t =>
      have h3 := pSz_bd (oks_hd h.ob); have h4 := hb q t rfl
      simp only [stp] at hs
      split at hs
      · rename_i hk
        simp only [Option.some.injEq, Prod.mk.injEq] at hs
        obtain ⟨_, rfl, rfl⟩ := hs
        have g := h.left hk
        exact ⟨g.1, by omega⟩
      · rename_i hk
        split at hs
        · rename_i hk2
          simp only [Option.some.injEq, Prod.mk.injEq] at hs
          obtain ⟨_, rfl, rfl⟩ := hs
          have g := h.right hk2
          exact ⟨g.1, by omega⟩
        · rename_i hk2
          simp only [Option.some.injEq, Prod.mk.injEq] at hs
          obtain ⟨_, rfl, rfl⟩ := hs
          have g := h.both hk hk2 rfl
          exact ⟨g.1, by omega⟩

def trc (f : Int) : Nat → List DPart → List DPart → List Em
  | 0, _, _ => []
  | k + 1, a, b => match stp f (skp a) (skp b) with
    | none => []
    | some (e, a', b') => e :: trc f k a' b'
def tr (f : Int) (a b : List DPart) : List Em := trc f (szs a + szs b).toNat a b
theorem zero_skp : ∀ {l : List DPart}, oks l → szs l = 0 → skp l = []
  | [], _, _ => rfl
  | p :: r, h, hz => by
    have h1 := pSz_bd (oks_hd h)
    have h2 := szs_nn (oks_tl h)
    rw [szs_cons] at hz
    unfold skp
    rw [if_pos (by omega)]
    exact zero_skp (oks_tl h) (by omega)
theorem trc_fuel {f : Int} : ∀ (k k' : Nat) {a b : List DPart}, J f a b → szs a + szs b ≤ k → szs a + szs b ≤ k' → trc f k a b = trc f k' a b
  | 0, 0, _, _, _, _, _ => rfl
  | 0, k' + 1, a, b, h, h1, _ => by
    have := szs_nn h.oa; have := szs_nn h.ob
    unfold trc
    rw [zero_skp h.oa (by omega), zero_skp h.ob (by omega)]; rfl
  | k + 1, 0, a, b, h, _, h2 => by
    have := szs_nn h.oa; have := szs_nn h.ob
    unfold trc
    rw [zero_skp h.oa (by omega), zero_skp h.ob (by omega)]; rfl
  | k + 1, k' + 1, a, b, h, h1, h2 => by
    unfold trc
    cases hs : stp f (skp a) (skp b) with
    | none => rfl
    | some x =>
      obtain ⟨e, a', b'⟩ := x
      have g := stp_less h.skp (fun p r hp => skp_cons hp) (fun p r hp => skp_cons hp) hs
      rw [szs_skp, szs_skp] at g
      simp only
      rw [trc_fuel k k' g.1 (by omega) (by omega)]
theorem tr_some {f : Int} {a b a' b' : List DPart} {e : Em} (h : J f a b) (hs : stp f (skp a) (skp b) = some (e, a', b')) : tr f a b = e :: tr f a' b' := by
  have g := stp_less h.skp (fun p r hp => skp_cons hp) (fun p r hp => skp_cons hp) hs
  rw [szs_skp, szs_skp] at g
  have h1 := szs_nn g.1.oa; have h2 := szs_nn g.1.ob
  unfold tr
  rw [show (szs a + szs b).toNat = ((szs a + szs b).toNat - 1) + 1 by omega]
  rw [trc, hs]
  simp only
  rw [trc_fuel _ (szs a' + szs b').toNat g.1 (by omega) (by omega)]
theorem tr_none {f : Int} {a b : List DPart} (hs : stp f (skp a) (skp b) = none) : tr f a b = [] := by
  unfold tr
  cases (szs a + szs b).toNat with
  | zero => rfl
  | succ k => rw [trc, hs]
theorem trc_skp {f : Int} (k : Nat) {a b a' b' : List DPart} (ha : skp a = skp a') (hb : skp b = skp b') : trc f k a b = trc f k a' b' := by
  cases k with
  | zero => rfl
  | succ k => unfold trc; rw [ha, hb]
theorem tr_skp {f : Int} {a b a' b' : List DPart} (ha : skp a = skp a') (hb : skp b = skp b') : tr f a b = tr f a' b' := by
  unfold tr
  rw [trc_skp _ ha hb, show szs a = szs a' by rw [← szs_skp a, ha, szs_skp], show szs b = szs b' by rw [← szs_skp b, hb, szs_skp]]

-- The program's rests
def hdP : List DPart → DPart
  | [] => ⟨0, 0, []⟩
  | p :: _ => p
end Go.Proofs.YtlgmikaemfbmaaaGreat
