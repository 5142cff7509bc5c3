/- Normal forms by gaps: what is put and how much is dropped between two signs that are kept. No condition. -/
import Derived.Test.YtjbonmmmcnpjiaaGreatDoorMn
namespace Go.Proofs.YtjbonmmmcnpjiaaGreatDoor

structure Gs where
  done : List (List Int × Nat)
  p : List Int
  d : Nat
def gstep (s : Gs) (q : DPart) : Gs :=
  if q.kind = 2 then ⟨s.done, s.p ++ q.signs, s.d⟩ else if q.kind = 3 then ⟨s.done, s.p, s.d + q.n.toNat⟩
  else if 0 < q.n then ⟨s.done ++ (s.p, s.d) :: List.replicate (q.n.toNat - 1) ([], 0), [], 0⟩ else s
def g0 : Gs := ⟨[], [], 0⟩
def gst (o : List DPart) : Gs := o.foldl gstep g0
def gfin (s : Gs) : List (List Int × Nat) := s.done ++ [(s.p, s.d)]
/-- The gaps of an operation. -/
def gf (o : List DPart) : List (List Int × Nat) := gfin (gst o)

theorem gfin_inj {s t : Gs} (h : gfin s = gfin t) : s = t := by
  unfold gfin at h
  have h1 := List.append_inj' h rfl
  cases s; cases t
  simp at h1
  simp [h1]

-- From a builder to gaps
theorem gst_flush (b : DL02B) {D : List (List Int × Nat)} (h : b.list.foldl gstep g0 = ⟨D, [], 0⟩) (h0 : 0 ≤ b.drop) : (flushL b).foldl gstep g0 = ⟨D, b.put, b.drop.toNat⟩ := by
  unfold flushL
  rw [List.foldl_append, List.foldl_append, h]
  have h1 : List.foldl gstep ⟨D, [], 0⟩ (if b.put = [] then [] else [⟨2, 0, b.put⟩]) = ⟨D, b.put, 0⟩ := by
    split
    · rename_i hp; rw [hp]; rfl
    · simp [gstep]
  rw [h1]
  split
  · simp [gstep]
  · have : b.drop = 0 := by omega
    simp [this]

theorem el_last_append {L : List DPart} (h : 0 < L.length) : ∃ M, L = M ++ [el L (L.length - 1)] := by
  refine ⟨L.take (L.length - 1), ?_⟩
  rw [el_eq (by omega)]
  conv => lhs; rw [← List.take_append_drop (L.length - 1) L]
  congr 1
  rw [List.drop_eq_getElem_cons (by omega)]
  congr 1
  rw [show L.length - 1 + 1 = L.length by omega, List.drop_length]
theorem set_last {M : List DPart} {x y : DPart} : (M ++ [x]).set ((M ++ [x]).length - 1) y = M ++ [y] := by
  simp
theorem rep_glue {α : Type} (x : α) (a b : Nat) (ha : 0 < a) (hb : 0 < b) (u : α) : (u :: List.replicate (a - 1) x) ++ (x :: List.replicate (b - 1) x) = u :: List.replicate (a + b - 1) x := by
  rw [List.cons_append, ← List.replicate_succ, show b - 1 + 1 = b by omega, List.replicate_append_replicate, show a - 1 + b = a + b - 1 by omega]

theorem gst_addKeep {L : List DPart} {s : Gs} {n : Int} (h : L.foldl gstep g0 = s) (hn : 0 < n) (he : ∀ q ∈ L, 0 ≤ q.n) : (addKeep L n).foldl gstep g0 = gstep s ⟨1, n, []⟩ := by
  unfold addKeep
  split
  · rename_i hk
    obtain ⟨M, hM⟩ := el_last_append hk.1
    generalize hz : el L (L.length - 1) = z at *
    have hz0 : 0 ≤ z.n := he z (by rw [hM]; simp)
    subst hM
    rw [set_last, List.foldl_append] at *
    rw [← h]
    generalize List.foldl gstep g0 M = t
    obtain ⟨k, m, sg⟩ := z
    simp only at hk hz0
    obtain ⟨_, rfl⟩ := hk
    simp only [List.foldl_cons, List.foldl_nil]
    unfold gstep
    by_cases hm : 0 < m
    · simp only [hm, hn, show 0 < m + n by omega, if_true]
      simp
      rw [show (m + n).toNat = m.toNat + n.toNat by omega]
      have := rep_glue (([], 0) : List Int × Nat) m.toNat n.toNat (by omega) (by omega) (t.p, t.d)
      simpa using this.symm
    · have : m = 0 := by omega
      subst this
      simp [hn]
  · rw [List.foldl_append, h]; rfl

theorem gst_part {b : DL02B} {s : Gs} {q : DPart} (h : b.list.foldl gstep g0 = ⟨s.done, [], 0⟩) (hp : s.p = b.put) (hd : s.d = b.drop.toNat) (h0 : 0 ≤ b.drop) (he : ∀ q ∈ b.list, 0 ≤ q.n) (hq : 0 ≤ q.n) :
    (bPart b q).list.foldl gstep g0 = ⟨(gstep s q).done, [], 0⟩ ∧ (gstep s q).p = (bPart b q).put ∧ (gstep s q).d = (bPart b q).drop.toNat ∧ 0 ≤ (bPart b q).drop ∧ ∀ q' ∈ (bPart b q).list, 0 ≤ q'.n := by
  unfold bPart
  by_cases h2 : q.kind = 2
  · simp only [h2, if_true, bPut, gstep]; exact ⟨h, by rw [hp], hd, h0, he⟩
  by_cases h3 : q.kind = 3
  · simp only [h3, if_true, bDrop, gstep]; exact ⟨h, hp, by simp; omega, by simp; omega, he⟩
  simp only [h2, h3, if_false]
  unfold bKeep
  by_cases hn : 0 < q.n
  · have hs : (flushL b).foldl gstep g0 = s := by rw [gst_flush b h h0]; cases s; simp at hp hd; simp [hp, hd]
    have hf : ∀ q ∈ flushL b, 0 ≤ q.n := fun x hx => by
      unfold flushL at hx
      simp only [List.mem_append] at hx
      rcases hx with hx | hx | hx
      · exact he x hx
      · split at hx
        · cases hx
        · simp only [List.mem_singleton] at hx; subst hx; simp
      · split at hx
        · simp only [List.mem_singleton] at hx; subst hx; simp only; omega
        · cases hx
    have hg : gstep s q = gstep s ⟨1, q.n, []⟩ := by unfold gstep; simp [h2, h3]
    simp only [hn, if_true]
    rw [gst_addKeep hs hn hf, hg]
    refine ⟨?_, ?_, ?_, by simp, ?_⟩
    · unfold gstep; simp [hn]
    · unfold gstep; simp [hn]
    · unfold gstep; simp [hn]
    · intro x hx
      unfold addKeep at hx
      split at hx
      · rename_i hk
        rcases List.mem_or_eq_of_mem_set hx with hx | hx
        · exact hf x hx
        · subst hx; have := hf _ (el_mem (l := flushL b) (i := (flushL b).length - 1) (by omega)); simp only; omega
      · rcases List.mem_append.1 hx with hx | hx
        · exact hf x hx
        · simp only [List.mem_singleton] at hx; subst hx; simp only; omega
  · have hg : gstep s q = s := by unfold gstep; simp [h2, h3, hn]
    simp only [hn, if_false, hg]
    exact ⟨h, hp, hd, h0, he⟩

theorem gst_fold {o : List DPart} (hq : ∀ q ∈ o, 0 ≤ q.n) : ∀ {b : DL02B} {s : Gs}, b.list.foldl gstep g0 = ⟨s.done, [], 0⟩ → s.p = b.put → s.d = b.drop.toNat → 0 ≤ b.drop → (∀ q ∈ b.list, 0 ≤ q.n) →
    (flushL (o.foldl bPart b)).foldl gstep g0 = o.foldl gstep s := by
  induction o with
  | nil => intro b s h hp hd h0 he; rw [List.foldl_nil, List.foldl_nil, gst_flush b h h0]; cases s; simp at hp hd; simp [hp, hd]
  | cons q o ih =>
    intro b s h hp hd h0 he
    obtain ⟨k1, k2, k3, k4, k5⟩ := gst_part h hp hd h0 he (hq q (by simp))
    exact ih (fun x hx => hq x (by simp [hx])) k1 k2 k3 k4 k5

theorem gf_nrm {o : List DPart} (hq : ∀ q ∈ o, 0 ≤ q.n) : gf (nrm o) = gf o := by
  unfold gf gst nrm
  rw [gst_fold hq (b := bNil) (s := g0) rfl rfl rfl (by decide) (fun q h => by cases h)]

-- From gaps to a builder
def bGap (b : DL02B) (g : List Int × Nat) : DL02B := bDrop (bPut b g.1) g.2
def bSt (s : Gs) : DL02B := bGap (s.done.foldl (fun b g => bKeep (bGap b g) 1) bNil) (s.p, s.d)
theorem flush_plain (L : List DPart) : flushL ⟨L, [], 0⟩ = L := by simp [flushL]
theorem addKeep_two {L : List DPart} {m n : Int} : addKeep (addKeep L m) n = addKeep L (m + n) := by
  unfold addKeep
  by_cases hk : 0 < L.length ∧ (el L (L.length - 1)).kind = 1
  · simp only [hk, and_self, if_true]
    have h1 : L.length - 1 < L.length := by omega
    simp only [List.length_set, hk.1, true_and]
    rw [el_set h1]
    simp only [if_true, List.set_set, Int.add_assoc]
  · simp only [hk, if_false]
    have h1 : el (L ++ [(⟨1, m, []⟩ : DPart)]) ((L ++ [(⟨1, m, []⟩ : DPart)]).length - 1) = ⟨1, m, []⟩ := by
      have := el_mid L (⟨1, m, []⟩ : DPart) []
      simpa using this
    rw [h1]
    simp
theorem bKeep_two {b : DL02B} {m n : Int} (hm : 0 < m) (hn : 0 < n) : bKeep (bKeep b m) n = bKeep b (m + n) := by
  unfold bKeep
  simp only [hm, hn, show 0 < m + n by omega, if_true, flush_plain, addKeep_two]
theorem bGap_nil (b : DL02B) : bGap b ([], 0) = b := by simp [bGap, bDrop, bPut]
theorem bKeep_rep : ∀ (k : Nat) (b : DL02B), (List.replicate k (([], 0) : List Int × Nat)).foldl (fun b g => bKeep (bGap b g) 1) b = bKeep b k
  | 0, b => by simp [bKeep]
  | k + 1, b => by
    rw [List.replicate_succ, List.foldl_cons, bGap_nil, bKeep_rep k]
    cases k with
    | zero => simp [bKeep]
    | succ k => rw [bKeep_two (by omega) (by omega)]; congr 1; omega
theorem bSt_part (s : Gs) (q : DPart) (hq : 0 ≤ q.n) : bPart (bSt s) q = bSt (gstep s q) := by
  unfold bPart gstep
  by_cases h2 : q.kind = 2
  · simp [h2, bSt, bGap, bPut, bDrop]
  by_cases h3 : q.kind = 3
  · simp only [h3, if_true, bSt, bGap, bPut, bDrop]
    simp; omega
  simp only [h2, h3, if_false]
  by_cases hn : 0 < q.n
  · simp only [hn, if_true]
    unfold bSt
    simp only [List.foldl_append, List.foldl_cons, bKeep_rep, bGap_nil]
    generalize bGap (s.done.foldl (fun b g => bKeep (bGap b g) 1) bNil) (s.p, s.d) = b
    by_cases h1 : q.n = 1
    · simp [h1, bKeep]
    · rw [bKeep_two (by omega) (by omega)]; congr 1; omega
  · simp only [hn, if_false, bKeep]
theorem bSt_fold {o : List DPart} (hq : ∀ q ∈ o, 0 ≤ q.n) : ∀ (s : Gs), o.foldl bPart (bSt s) = bSt (o.foldl gstep s) := by
  induction o with
  | nil => intro s; rfl
  | cons q o ih => intro s; rw [List.foldl_cons, List.foldl_cons, bSt_part s q (hq q (by simp))]; exact ih (fun x hx => hq x (by simp [hx])) _
/-- The normal form by its gaps. -/
theorem nrm_gst {o : List DPart} (hq : ∀ q ∈ o, 0 ≤ q.n) : nrm o = flushL (bSt (gst o)) := by
  unfold nrm gst
  rw [← bSt_fold hq g0]; rfl
theorem nrm_eq {o o' : List DPart} (h1 : ∀ q ∈ o, 0 ≤ q.n) (h2 : ∀ q ∈ o', 0 ≤ q.n) (h : gf o = gf o') : nrm o = nrm o' := by
  rw [nrm_gst h1, nrm_gst h2, gfin_inj h]

-- Signs that are kept, and what comes of a text
def keptG : List (List Int × Nat) → List Int → List Int
  | [], _ => []
  | [_], _ => []
  | g :: r, t => (t.drop g.2).take 1 ++ keptG r ((t.drop g.2).drop 1)
def appG : List (List Int × Nat) → List Int → List Int
  | [], _ => []
  | [g], _ => g.1
  | g :: r, t => g.1 ++ ((t.drop g.2).take 1 ++ appG r ((t.drop g.2).drop 1))
def kept : List DPart → List Int → List Int
  | [], _ => []
  | q :: o, t => if q.kind = 1 then t.take q.n.toNat ++ kept o (t.drop q.n.toNat) else kept o (t.drop q.n.toNat)
def appl : List DPart → List Int → List Int
  | [], _ => []
  | q :: o, t => if q.kind = 1 then t.take q.n.toNat ++ appl o (t.drop q.n.toNat) else if q.kind = 2 then q.signs ++ appl o t else appl o (t.drop q.n.toNat)

/-- Gaps from a state on. -/
def gfr (o : List DPart) (p : List Int) (d : Nat) : List (List Int × Nat) := gfin (o.foldl gstep ⟨[], p, d⟩)
theorem gstep_done (D : List (List Int × Nat)) (s : Gs) (q : DPart) : gstep ⟨D ++ s.done, s.p, s.d⟩ q = ⟨D ++ (gstep s q).done, (gstep s q).p, (gstep s q).d⟩ := by
  unfold gstep
  split
  · rfl
  · split
    · rfl
    · split
      · simp
      · rfl
theorem gfold_done (o : List DPart) : ∀ (D : List (List Int × Nat)) (s : Gs), gfin (o.foldl gstep ⟨D ++ s.done, s.p, s.d⟩) = D ++ gfin (o.foldl gstep s) := by
  induction o with
  | nil => intro D s; simp [gfin]
  | cons q o ih => intro D s; rw [List.foldl_cons, List.foldl_cons, gstep_done]; exact ih D (gstep s q)
theorem gfr_nil (p : List Int) (d : Nat) : gfr [] p d = [(p, d)] := rfl
theorem gfr_ne (o : List DPart) (p : List Int) (d : Nat) : gfr o p d ≠ [] := by unfold gfr gfin; simp
theorem gfr_put {q : DPart} (h : q.kind = 2) (o : List DPart) (p : List Int) (d : Nat) : gfr (q :: o) p d = gfr o (p ++ q.signs) d := by unfold gfr; rw [List.foldl_cons]; simp [gstep, h]
theorem gfr_drop {q : DPart} (h : q.kind = 3) (o : List DPart) (p : List Int) (d : Nat) : gfr (q :: o) p d = gfr o p (d + q.n.toNat) := by unfold gfr; rw [List.foldl_cons]; simp [gstep, h]
theorem gfr_keep0 {q : DPart} (h2 : q.kind ≠ 2) (h3 : q.kind ≠ 3) (hn : q.n ≤ 0) (o : List DPart) (p : List Int) (d : Nat) : gfr (q :: o) p d = gfr o p d := by unfold gfr; rw [List.foldl_cons]; simp [gstep, h2, h3, show ¬ 0 < q.n by omega]
theorem gfr_keep {q : DPart} (h2 : q.kind ≠ 2) (h3 : q.kind ≠ 3) (hn : 0 < q.n) (o : List DPart) (p : List Int) (d : Nat) : gfr (q :: o) p d = (p, d) :: (List.replicate (q.n.toNat - 1) ([], 0) ++ gfr o [] 0) := by
  unfold gfr; rw [List.foldl_cons]
  have := gfold_done o ((p, d) :: List.replicate (q.n.toNat - 1) ([], 0)) ⟨[], [], 0⟩
  simp only [List.append_nil, List.cons_append] at this
  rw [← this]
  simp [gstep, h2, h3, hn]
theorem gf_gfr (o : List DPart) : gf o = gfr o [] 0 := rfl

theorem keptG_cons {g : List Int × Nat} {r : List (List Int × Nat)} (h : r ≠ []) (t : List Int) : keptG (g :: r) t = (t.drop g.2).take 1 ++ keptG r ((t.drop g.2).drop 1) := by
  cases r with
  | nil => exact absurd rfl h
  | cons x r => rfl
theorem appG_cons {g : List Int × Nat} {r : List (List Int × Nat)} (h : r ≠ []) (t : List Int) : appG (g :: r) t = g.1 ++ ((t.drop g.2).take 1 ++ appG r ((t.drop g.2).drop 1)) := by
  cases r with
  | nil => exact absurd rfl h
  | cons x r => rfl
theorem take_one_more (t : List Int) (k : Nat) : t.take 1 ++ (t.drop 1).take k = t.take (k + 1) := by
  cases t with
  | nil => simp
  | cons x t => simp
theorem take_mid (t : List Int) (d k : Nat) : (t.drop d).take 1 ++ (t.drop (d + 1)).take k = (t.drop d).take (k + 1) := by
  have := take_one_more (t.drop d) k
  rwa [List.drop_drop] at this
theorem keptG_rep {r : List (List Int × Nat)} (h : r ≠ []) : ∀ (k : Nat) (t : List Int), keptG (List.replicate k ([], 0) ++ r) t = t.take k ++ keptG r (t.drop k)
  | 0, t => by simp
  | k + 1, t => by
    rw [List.replicate_succ, List.cons_append, keptG_cons (by simp [h]), keptG_rep h k]
    simp only [List.drop_zero, ← List.append_assoc, take_one_more, List.drop_drop]
    rw [Nat.add_comm 1 k]
theorem appG_rep {r : List (List Int × Nat)} (h : r ≠ []) : ∀ (k : Nat) (t : List Int), appG (List.replicate k ([], 0) ++ r) t = t.take k ++ appG r (t.drop k)
  | 0, t => by simp
  | k + 1, t => by
    rw [List.replicate_succ, List.cons_append, appG_cons (by simp [h]), appG_rep h k]
    simp only [List.drop_zero, List.nil_append, ← List.append_assoc, take_one_more, List.drop_drop]
    rw [Nat.add_comm 1 k]
def kinds (o : List DPart) : Prop := ∀ q ∈ o, (q.kind = 1 ∨ q.kind = 2 ∨ q.kind = 3) ∧ 0 ≤ q.n ∧ (q.kind = 2 → q.n = 0)
theorem okParts_kinds {o : List DPart} (h : okParts o = true) : kinds o := fun q hq => by
  rcases okPart_cases (okParts_mem h hq) with ⟨h1, h2, h3, h4⟩ | ⟨h1, h2, h3, h4⟩ | ⟨h1, h2, h3, h4⟩ <;> simp [h1, h2]
theorem kept_gfr : ∀ {o : List DPart}, kinds o → ∀ (p : List Int) (d : Nat) (t : List Int), keptG (gfr o p d) t = kept o (t.drop d)
  | [], _, p, d, t => rfl
  | q :: o, h, p, d, t => by
    have ho : kinds o := fun x hx => h x (by simp [hx])
    obtain ⟨hk, hn, h20⟩ := h q (by simp)
    unfold kept
    rcases hk with hk | hk | hk
    · rw [if_pos hk]
      by_cases h0 : 0 < q.n
      · rw [gfr_keep (by omega) (by omega) h0, keptG_cons (by simp [gfr_ne]), keptG_rep (gfr_ne _ _ _), kept_gfr ho]
        simp only [← List.append_assoc, List.drop_drop, Nat.add_zero]
        rw [take_mid, show q.n.toNat - 1 + 1 = q.n.toNat by omega, show d + 1 + (q.n.toNat - 1) = d + q.n.toNat by omega]
      · rw [gfr_keep0 (by omega) (by omega) (by omega), kept_gfr ho]
        have : q.n.toNat = 0 := by omega
        simp [this]
    · rw [if_neg (by omega), gfr_put hk, kept_gfr ho, h20 hk]; simp
    · rw [if_neg (by omega), gfr_drop hk, kept_gfr ho, List.drop_drop]
theorem appl_gfr : ∀ {o : List DPart}, kinds o → ∀ (p : List Int) (d : Nat) (t : List Int), appG (gfr o p d) t = p ++ appl o (t.drop d)
  | [], _, p, d, t => by simp [gfr_nil, appG, appl]
  | q :: o, h, p, d, t => by
    have ho : kinds o := fun x hx => h x (by simp [hx])
    obtain ⟨hk, hn, h20⟩ := h q (by simp)
    unfold appl
    rcases hk with hk | hk | hk
    · rw [if_pos hk]
      by_cases h0 : 0 < q.n
      · rw [gfr_keep (by omega) (by omega) h0, appG_cons (by simp [gfr_ne]), appG_rep (gfr_ne _ _ _), appl_gfr ho]
        simp only [List.nil_append, List.drop_drop, Nat.add_zero]
        rw [← List.append_assoc (List.take 1 _), take_mid, show q.n.toNat - 1 + 1 = q.n.toNat by omega, show d + 1 + (q.n.toNat - 1) = d + q.n.toNat by omega]
      · rw [gfr_keep0 (by omega) (by omega) (by omega), appl_gfr ho]
        have : q.n.toNat = 0 := by omega
        simp [this]
    · rw [if_neg (by omega), if_pos hk, gfr_put hk, appl_gfr ho]; simp
    · rw [if_neg (by omega), if_neg (by omega), gfr_drop hk, appl_gfr ho, List.drop_drop]

theorem nrm_kinds {o : List DPart} (h : kinds o) : kinds (nrm o) := by
  have key : ∀ (o : List DPart), kinds o → ∀ (b : DL02B), kinds b.list → 0 ≤ b.drop → kinds (o.foldl bPart b).list ∧ 0 ≤ (o.foldl bPart b).drop := by
    intro o
    induction o with
    | nil => intro _ b h1 h2; exact ⟨h1, h2⟩
    | cons q o ih =>
      intro ho b h1 h2
      have hq := ho q (by simp)
      rw [List.foldl_cons]
      refine ih (fun x hx => ho x (by simp [hx])) _ ?_ ?_
      · unfold bPart
        split
        · exact h1
        · split
          · exact h1
          · unfold bKeep
            split
            · have hf : kinds (flushL b) := by
                intro x hx
                unfold flushL at hx
                simp only [List.mem_append] at hx
                rcases hx with hx | hx | hx
                · exact h1 x hx
                · split at hx
                  · cases hx
                  · simp only [List.mem_singleton] at hx; subst hx; simp
                · split at hx
                  · simp only [List.mem_singleton] at hx; subst hx; exact ⟨.inr (.inr rfl), by simp only; omega, by simp⟩
                  · cases hx
              intro x hx
              unfold addKeep at hx
              split at hx
              · rename_i hk
                rcases List.mem_or_eq_of_mem_set hx with hx | hx
                · exact hf x hx
                · have := hf _ (el_mem (l := flushL b) (i := (flushL b).length - 1) (by omega)); subst hx; simp only [hk.2]; refine ⟨.inl trivial, by omega, by omega⟩
              · rcases List.mem_append.1 hx with hx | hx
                · exact hf x hx
                · simp only [List.mem_singleton] at hx; subst hx; simp only; refine ⟨.inl trivial, by omega, by omega⟩
            · exact h1
      · unfold bPart
        split
        · exact h2
        · split
          · simp only [bDrop]; omega
          · unfold bKeep
            split
            · simp
            · exact h2
  obtain ⟨h1, h2⟩ := key o h bNil (fun q hq => by cases hq) (by decide)
  intro x hx
  unfold nrm flushL at hx
  simp only [List.mem_append] at hx
  rcases hx with hx | hx | hx
  · exact h1 x hx
  · split at hx
    · cases hx
    · simp only [List.mem_singleton] at hx; subst hx; simp
  · split at hx
    · simp only [List.mem_singleton] at hx; subst hx; exact ⟨.inr (.inr rfl), by simp only; omega, by simp⟩
    · cases hx
theorem kinds_nn {o : List DPart} (h : kinds o) : ∀ q ∈ o, 0 ≤ q.n := fun q hq => (h q hq).2.1
theorem kept_nrm {o : List DPart} (h : kinds o) (t : List Int) : kept (nrm o) t = kept o t := by
  have h1 := kept_gfr h [] 0 t
  have h2 := kept_gfr (nrm_kinds h) [] 0 t
  rw [← gf_gfr] at h1 h2
  rw [gf_nrm (kinds_nn h), h1] at h2
  simpa using h2.symm
theorem appl_nrm {o : List DPart} (h : kinds o) (t : List Int) : appl (nrm o) t = appl o t := by
  have h1 := appl_gfr h [] 0 t
  have h2 := appl_gfr (nrm_kinds h) [] 0 t
  rw [← gf_gfr] at h1 h2
  rw [gf_nrm (kinds_nn h), h1] at h2
  simpa using h2.symm
theorem nrm_nrm {o : List DPart} (h : kinds o) : nrm (nrm o) = nrm o := nrm_eq (kinds_nn (nrm_kinds h)) (kinds_nn h) (gf_nrm (kinds_nn h))
end Go.Proofs.YtjbonmmmcnpjiaaGreatDoor
