/- Normal forms; the program and the reference build the same ones. No condition. -/
import Derived.Test.YtjbonmmmcnpjiaaGreatDoorMc
import Derived.Test.YtjbonmmmcnpjiaaGreatDoorG2
import Derived.Test.YtjbonmmmcnpjiaaGreatDoorAx
namespace Go.Proofs.YtjbonmmmcnpjiaaGreatDoor

-- Lists that are the same
theorem i_Equal (a b : List Int) : x_slices_Equal_int_int a b = some (decide (a = b)) := by
  unfold x_slices_Equal_int_int
  by_cases hl : (a.length : Int) = (b.length : Int)
  · rw [cd_n, cd_t hl, each_eq (y := .inr ()) a b (by omega) (fun k h1 h2 => by
      unfold x_slices_Equal_int_int_f0 x_slices_Equal_int_int_b0
      rw [xg_of ⟨by omega, by omega⟩, cd_n, cs_])]
    cases decide (a = b) <;> rfl
  · rw [cd_n, cd_f hl, decide_eq_false (p := a = b) (fun h => hl (by rw [h]))]
theorem s_SignsSame (a b : List Int) : x_spec_SignsSame a b = some (decide (a = b)) := by
  unfold x_spec_SignsSame
  by_cases hl : (a.length : Int) = (b.length : Int)
  · rw [cd_n, cd_t hl, each_eq (y := .inr ()) a b (by omega) (fun k h1 h2 => by
      unfold x_spec_SignsSame_f0 x_spec_SignsSame_b0
      rw [xg_of ⟨by omega, by omega⟩, cd_n, cs_])]
    cases decide (a = b) <;> rfl
  · rw [cd_n, cd_f hl, decide_eq_false (p := a = b) (fun h => hl (by rw [h]))]
theorem part_eq (a b : DPart) : (a = b) ↔ (a.kind = b.kind ∧ a.n = b.n ∧ a.signs = b.signs) := by cases a; cases b; simp
theorem i_samePart (a b : DPart) : x_impl_samePart a b = some (decide (a = b)) := by
  unfold x_impl_samePart
  simp only [i_Equal, Option.bind_some, cs_, ca_]
  refine bsome ?_
  simp [part_eq, and_assoc]
theorem i_OpSame (a b : List DPart) : x_impl_OpSame a b = some (decide (a = b)) := by
  unfold x_impl_OpSame x_slices_EqualFunc_impl_Part_impl_Part_impl_Part_impl_Part
  by_cases hl : (a.length : Int) = (b.length : Int)
  · rw [cd_n, cd_t hl, each_eq (y := .inr ()) a b (by omega) (fun k h1 h2 => by
      unfold x_slices_EqualFunc_impl_Part_impl_Part_impl_Part_impl_Part_f0 x_slices_EqualFunc_impl_Part_impl_Part_impl_Part_impl_Part_b0
      rw [xg_of ⟨by omega, by omega⟩, i_samePart, Option.bind_some, cd_n, cs_])]
    cases decide (a = b) <;> rfl
  · rw [cd_n, cd_f hl, decide_eq_false (p := a = b) (fun h => hl (by rw [h]))]; rfl
theorem s_OpSame (a b : List DPart) : x_spec_OpSame a b = some (decide (a = b)) := by
  unfold x_spec_OpSame
  by_cases hl : (a.length : Int) = (b.length : Int)
  · rw [cd_n, cd_t hl, each_eq (y := .inr ()) a b (by omega) (fun k h1 h2 => by
      unfold x_spec_OpSame_f0 x_spec_OpSame_b0
      rw [xg_of ⟨by omega, by omega⟩, xg_of ⟨by omega, by omega⟩, xg_of ⟨by omega, by omega⟩]
      simp only [s_SignsSame, Option.bind_some, cs_, co_, cd_n]
      by_cases h1 : (el a k).kind = (el b k).kind
      · by_cases h2 : (el a k).n = (el b k).n
        · by_cases h3 : (el a k).signs = (el b k).signs
          · simp [part_eq, h1, h2, h3]
          · simp [part_eq, h1, h2, h3]
        · simp [part_eq, h1, h2]
      · simp [part_eq, h1])]
    cases decide (a = b) <;> rfl
  · rw [cd_n, cd_f hl, decide_eq_false (p := a = b) (fun h => hl (by rw [h]))]

-- The builder
def flushL (b : DL02B) : List DPart := b.list ++ ((if b.put = [] then [] else [⟨2, 0, b.put⟩]) ++ (if 0 < b.drop then [⟨3, b.drop, []⟩] else []))
def addKeep (L : List DPart) (n : Int) : List DPart :=
  if 0 < L.length ∧ (el L (L.length - 1)).kind = 1 then L.set (L.length - 1) ⟨(el L (L.length - 1)).kind, (el L (L.length - 1)).n + n, (el L (L.length - 1)).signs⟩ else L ++ [⟨1, n, []⟩]
def bKeep (b : DL02B) (n : Int) : DL02B := if 0 < n then ⟨addKeep (flushL b) n, [], 0⟩ else b
def bPut (b : DL02B) (l : List Int) : DL02B := ⟨b.list, b.put ++ l, b.drop⟩
def bDrop (b : DL02B) (n : Int) : DL02B := ⟨b.list, b.put, b.drop + n⟩
def bPart (b : DL02B) (p : DPart) : DL02B := if p.kind = 2 then bPut b p.signs else if p.kind = 3 then bDrop b p.n else bKeep b p.n
def bNil : DL02B := ⟨[], [], 0⟩
def nrm (o : List DPart) : List DPart := flushL (o.foldl bPart bNil)

structure Binv (b : DL02B) (m : Nat) : Prop where
  len : b.list.length ≤ 3 * m
  sz : sumL szDPart b.list + b.put.length ≤ 1000000 * m
  d0 : 0 ≤ b.drop
  d1 : b.drop ≤ 1000000 * m
  el : ∀ q ∈ b.list, 0 ≤ q.n ∧ q.n ≤ 1000000 * m
theorem binv_nil : Binv bNil 0 := ⟨by simp [bNil], by simp [bNil, sumL], by simp [bNil], by simp [bNil], by simp [bNil]⟩
theorem sumL_app {T : Type} (c : T → Nat) : ∀ (a b : List T), sumL c (a ++ b) = sumL c a + sumL c b
  | [], b => by simp [sumL]
  | x :: a, b => by simp only [List.cons_append, sumL, sumL_app c a b]; omega
theorem sumL_set {T : Type} [Inhabited T] (c : T → Nat) (y : T) : ∀ (l : List T) (i : Nat), i < l.length → c y = c (el l i) → sumL c (l.set i y) = sumL c l
  | x :: l, 0, _, h => by simp only [List.set_cons_zero, sumL, h]; rfl
  | x :: l, i + 1, hi, h => by
    simp only [List.set_cons_succ, sumL]
    rw [sumL_set c y l i (by simpa using hi) (by rw [h]; unfold el; simp [List.getD_eq_getElem?_getD])]
theorem szDPart_eq (p : DPart) : szDPart p = p.signs.length := by unfold szDPart; exact lenL_z (fun _ => rfl) _

theorem flush_len (b : DL02B) : (flushL b).length ≤ b.list.length + 2 := by
  unfold flushL
  split <;> split <;> simp <;> omega
theorem flush_sz (b : DL02B) : sumL szDPart (flushL b) = sumL szDPart b.list + b.put.length := by
  unfold flushL
  rw [sumL_app, sumL_app]
  have : sumL szDPart (if b.put = [] then [] else [(⟨2, 0, b.put⟩ : DPart)]) = b.put.length := by
    split
    · rename_i h; rw [h]; rfl
    · simp [sumL, szDPart_eq]
  rw [this]
  split <;> simp [sumL, szDPart_eq]
theorem flush_mem {b : DL02B} {m : Nat} (h : Binv b m) : ∀ q ∈ flushL b, 0 ≤ q.n ∧ q.n ≤ 1000000 * m := by
  intro q hq
  unfold flushL at hq
  have := h.d0; have := h.d1
  simp only [List.mem_append] at hq
  rcases hq with hq | hq | hq
  · exact h.el q hq
  · split at hq
    · cases hq
    · simp only [List.mem_singleton] at hq; subst hq; simp only; omega
  · split at hq
    · simp only [List.mem_singleton] at hq; subst hq; simp only; omega
    · cases hq

theorem binv_keep {b : DL02B} {m : Nat} {n : Int} (h : Binv b m) (h1 : n ≤ 1000000) : Binv (bKeep b n) (m + 1) := by
  have h2 := flush_len b; have h3 := flush_sz b; have h4 := flush_mem h
  have := h.len; have := h.sz; have := h.d0; have := h.d1
  unfold bKeep
  split
  · unfold addKeep
    split
    · rename_i hk
      have hl : (flushL b).length - 1 < (flushL b).length := by omega
      refine ⟨by simp; omega, ?_, by simp, by simp; omega, fun q hq => ?_⟩
      · simp only [List.length_nil]
        rw [sumL_set szDPart _ _ _ hl (by rw [szDPart_eq, szDPart_eq]), h3]; omega
      · rcases List.mem_or_eq_of_mem_set hq with hq | hq
        · have := h4 q hq; omega
        · have := h4 _ (el_mem hl); subst hq; simp only; omega
    · refine ⟨by simp; omega, ?_, by simp, by simp; omega, fun q hq => ?_⟩
      · simp only [List.length_nil, sumL_app]
        rw [h3]; simp [sumL, szDPart_eq]; omega
      · rcases List.mem_append.1 hq with hq | hq
        · have := h4 q hq; omega
        · simp only [List.mem_singleton] at hq; subst hq; simp only; omega
  · exact ⟨by omega, by omega, by omega, by omega, fun q hq => by have := h.el q hq; omega⟩
theorem binv_put {b : DL02B} {m : Nat} {l : List Int} (h : Binv b m) (h1 : l.length ≤ 1000000) : Binv (bPut b l) (m + 1) := by
  have := h.len; have := h.sz; have := h.d0; have := h.d1
  unfold bPut
  exact ⟨by simp only; omega, by simp only [List.length_append]; omega, by simp only; omega, by simp only; omega, fun q hq => by have := h.el q hq; omega⟩
theorem binv_drop {b : DL02B} {m : Nat} {n : Int} (h : Binv b m) (h0 : 0 ≤ n) (h1 : n ≤ 1000000) : Binv (bDrop b n) (m + 1) := by
  have := h.len; have := h.sz; have := h.d0; have := h.d1
  unfold bDrop
  exact ⟨by simp only; omega, by simp only; omega, by simp only; omega, by simp only; omega, fun q hq => by have := h.el q hq; omega⟩
/-- A part that is not too large. -/
def fair (p : DPart) : Prop := 0 ≤ p.n ∧ p.n ≤ 1000000 ∧ p.signs.length ≤ 1000000
theorem okPart_fair {p : DPart} (h : okPart p = true) : fair p := by have := okPart_len h; exact ⟨by omega, by omega, by omega⟩
theorem binv_part {b : DL02B} {m : Nat} {p : DPart} (h : Binv b m) (hp : fair p) : Binv (bPart b p) (m + 1) := by
  unfold bPart
  split
  · exact binv_put h hp.2.2
  · split
    · exact binv_drop h hp.1 hp.2.1
    · exact binv_keep h hp.2.1
theorem binv_fold {o : List DPart} (hp : ∀ p ∈ o, fair p) : ∀ {b : DL02B} {m : Nat}, Binv b m → Binv (o.foldl bPart b) (m + o.length) := by
  induction o with
  | nil => intro b m h; exact h
  | cons x o ih =>
    intro b m h
    have := ih (fun p hq => hp p (by simp [hq])) (binv_part h (hp x (by simp)))
    rw [List.foldl_cons, List.length_cons, show m + (o.length + 1) = m + 1 + o.length by omega]; exact this

theorem pos_nil {l : List Int} : ((0 : Int) < (l.length : Int)) ↔ ¬ l = [] := by cases l <;> simp
theorem s_Flush {b : DL02B} {m : Nat} (h : Binv b m) (hm : m ≤ 1000000) : x_spec_l02Flush b = some ⟨flushL b, [], 0⟩ := by
  have := h.len
  unfold x_spec_l02Flush flushL
  by_cases hp : b.put = []
  · rw [cd_f (fun h => pos_nil.1 h hp), if_pos hp]
    by_cases hd : 0 < b.drop
    · rw [cd_t hd, if_pos hd, xg_of (by simp; omega)]; rfl
    · rw [cd_f hd, if_neg hd]; simp
  · rw [cd_t (pos_nil.2 hp), if_neg hp, xg_of (by simp; omega)]
    by_cases hd : 0 < b.drop
    · rw [cd_t hd, if_pos hd, xg_of (by simp; omega)]; simp
    · rw [cd_f hd, if_neg hd]; simp
theorem i_flush {b : DL02B} {m : Nat} (h : Binv b m) (hm : m ≤ 1000000) : x_impl_normal_1 b.put b.list b.drop = some ([], flushL b, 0) := by
  have := h.len
  unfold x_impl_normal_1 flushL
  by_cases hp : b.put = []
  · rw [cd_f (fun h => pos_nil.1 h hp), if_pos hp]
    by_cases hd : 0 < b.drop
    · rw [cd_t hd, if_pos hd, xg_of (by omega)]; rfl
    · rw [cd_f hd, if_neg hd]; simp
  · rw [cd_t (pos_nil.2 hp), if_neg hp, xg_of (by omega)]
    by_cases hd : 0 < b.drop
    · rw [cd_t hd, if_pos hd, xg_of (by simp; omega)]; simp
    · rw [cd_f hd, if_neg hd]; simp
theorem s_Done {b : DL02B} {m : Nat} (h : Binv b m) (hm : m ≤ 1000000) : x_spec_l02Done b = some (flushL b, ⟨flushL b, [], 0⟩) := by
  unfold x_spec_l02Done
  rw [s_Flush h hm]; rfl
theorem s_Put {b : DL02B} {m : Nat} {l : List Int} (h : Binv b m) (hm : m < 1000000) (hl : l.length ≤ 1000000) : x_spec_l02Put b l = some (bPut b l) := by
  have := h.sz
  unfold x_spec_l02Put
  rw [xg_of (by omega)]; rfl
theorem s_Drop {b : DL02B} {m : Nat} {n : Int} (h : Binv b m) (hm : m < 1000000) (h0 : 0 ≤ n) (h1 : n ≤ 1000000) : x_spec_l02Drop b n = some (bDrop b n) := by
  have := h.d0; have := h.d1
  unfold x_spec_l02Drop
  rw [xg_I (by omega) (by omega)]; rfl
theorem last_nat {l : List DPart} (h : 0 < l.length) : ((l.length : Int) - 1).toNat = l.length - 1 := by omega
theorem s_Keep {b : DL02B} {m : Nat} {n : Int} (h : Binv b m) (hm : m < 1000000) (h0 : 0 ≤ n) (h1 : n ≤ 1000000) : x_spec_l02Keep b n = some (bKeep b n) := by
  unfold x_spec_l02Keep bKeep
  by_cases hn : n = 0
  · rw [cd_t hn, if_neg (by omega)]
  rw [cd_f hn, if_pos (by omega), s_Flush h (by omega)]
  have h2 := flush_len b; have h4 := flush_mem h; have := h.len
  generalize flushL b = L at *
  simp only [Option.bind_some]
  unfold addKeep
  by_cases hl : (0 : Int) < (L.length : Int)
  · have hL : 0 < L.length := by omega
    rw [cd_t hl, xg_I (by omega) (by omega), xg_of ⟨by omega, by omega⟩, last_nat hL]
    have h5 := h4 _ (el_mem (l := L) (i := L.length - 1) (by omega))
    by_cases hk : (el L (L.length - 1)).kind = 1
    · rw [if_pos ⟨hL, hk⟩, decide_eq_true hk]
      simp only [Option.bind_some, cd_T]
      rw [xg_I (by omega) (by omega), xg_I (by omega) (by omega), xg_of ⟨by omega, by omega⟩, xg_I (by omega) (by omega), xg_of ⟨by omega, by omega⟩]
    · rw [if_neg (fun h => hk h.2), decide_eq_false hk]
      simp only [Option.bind_some, cd_F]
      rw [xg_of (by omega)]
  · rw [cd_f hl, if_neg (fun h => hl (by omega))]
    simp only [Option.bind_some, cd_F]
    rw [xg_of (by omega)]

theorem i_normal {o : List DPart} (hp : ∀ p ∈ o, fair p) (hl : o.length < 1000000) : x_impl_normal o = some (nrm o) := by
  unfold x_impl_normal
  have hb := binv_fold hp binv_nil
  rw [each_fold (F := x_impl_normal_f0 o) o (fun r k s => (∀ p ∈ r, fair p) ∧ k + r.length = o.length ∧ Binv ⟨s.2.2, s.1, s.2.1⟩ k) (fun s x => ((bPart ⟨s.2.2, s.1, s.2.1⟩ x).put, (bPart ⟨s.2.2, s.1, s.2.1⟩ x).drop, (bPart ⟨s.2.2, s.1, s.2.1⟩ x).list)) (fun x r k s hk hx hP => by
    obtain ⟨p, d, L⟩ := s
    obtain ⟨h1, h2, h3⟩ := hP
    have hx1 := h1 x (by simp)
    have h2' : k + (r.length + 1) = o.length := by simpa using h2
    have h4 := binv_part h3 hx1
    refine ⟨?_, fun q hq => h1 q (by simp [hq]), by omega, h4⟩
    clear h4
    simp only at h3 ⊢
    unfold x_impl_normal_f0 x_impl_normal_b0 bPart
    rw [hx]
    simp only
    by_cases hk2 : x.kind = 2
    · have h5 := h3.sz; have := hx1.2.2
      dsimp only at h5
      rw [cd_t hk2, if_pos hk2, xg_of (by omega)]; rfl
    by_cases hk3 : x.kind = 3
    · have h5 := h3.d0; have h6 := h3.d1; have := hx1.1; have := hx1.2.1
      dsimp only at h5 h6
      rw [cd_f hk2, cd_t hk3, if_neg hk2, if_pos hk3, xg_I (by omega) (by omega)]; rfl
    rw [cd_f hk2, cd_f hk3, if_neg hk2, if_neg hk3]
    unfold bKeep
    by_cases hn : 0 < x.n
    · have hf := i_flush h3 (by omega)
      simp only at hf
      rw [cd_t hn, if_pos hn, hf]
      have g2 := flush_len ⟨L, p, d⟩; have g4 := flush_mem h3; have := h3.len
      generalize flushL ⟨L, p, d⟩ = M at *
      simp only [Option.bind_some]
      unfold addKeep
      have := hx1.1; have := hx1.2.1
      dsimp only at *
      by_cases hl : (0 : Int) < (M.length : Int)
      · have hL : 0 < M.length := by omega
        rw [cd_t hl, xg_I (by omega) (by omega), xg_of ⟨by omega, by omega⟩, last_nat hL]
        have h5 := g4 _ (el_mem (l := M) (i := M.length - 1) (by omega))
        by_cases hk : (el M (M.length - 1)).kind = 1
        · rw [if_pos ⟨hL, hk⟩, decide_eq_true hk]
          simp only [Option.bind_some, cd_T]
          rw [xg_I (by omega) (by omega), xg_of ⟨by omega, by omega⟩, xg_I (by omega) (by omega), xg_of ⟨by omega, by omega⟩]
        · rw [if_neg (fun h => hk h.2), decide_eq_false hk]
          simp only [Option.bind_some, cd_F]
          rw [xg_of (by omega)]
      · rw [cd_f hl, if_neg (fun h => hl (by omega))]
        simp only [Option.bind_some, cd_F]
        rw [xg_of (by omega)]
    · rw [cd_f hn, if_neg hn]) ([], 0, []) ⟨hp, by simp, binv_nil⟩]
  have key : ∀ (l : List DPart) (b : DL02B), l.foldl (fun s x => ((bPart ⟨s.2.2, s.1, s.2.1⟩ x).put, (bPart ⟨s.2.2, s.1, s.2.1⟩ x).drop, (bPart ⟨s.2.2, s.1, s.2.1⟩ x).list)) (b.put, b.drop, b.list) = ((l.foldl bPart b).put, (l.foldl bPart b).drop, (l.foldl bPart b).list) := by
    intro l
    induction l with
    | nil => intro b; rfl
    | cons x l ih => intro b; rw [List.foldl_cons, List.foldl_cons]; exact ih _
  have hk := key o bNil
  simp only [bNil] at hk
  rw [hk]
  simp only [Option.bind_some]
  have hf := i_flush hb (by omega)
  simp only [bNil] at hf
  rw [hf]; rfl

theorem okOp_parts {o : List DPart} (h : okOp o = true) : okParts o = true := by
  unfold okOp at h
  simp only [Bool.and_eq_true] at h
  exact h.1.1
theorem okOp_from {o : List DPart} (h : okOp o = true) : 0 ≤ fromOf o ∧ fromOf o ≤ 200 := by
  have h1 := bd_parts (okOp_parts h); rw [sum_from]
  unfold okOp at h
  simp only [Bool.and_eq_true, decide_eq_true_eq, sum_from] at h
  omega
theorem okOp_to {o : List DPart} (h : okOp o = true) : 0 ≤ toOf o ∧ toOf o ≤ 200 := by
  have h1 := bd_parts (okOp_parts h); rw [sum_to]
  unfold okOp at h
  simp only [Bool.and_eq_true, decide_eq_true_eq, sum_to] at h
  omega
theorem okParts_fair {o : List DPart} (h : okParts o = true) : ∀ p ∈ o, fair p := fun _ hp => okPart_fair (okParts_mem h hp)
theorem i_OpNorm (o : List DPart) : x_impl_OpNorm o = some (if okOp o then nrm o else []) := by
  unfold x_impl_OpNorm
  rw [i_OpOk, Option.bind_some]
  cases h : okOp o with
  | false => rfl
  | true =>
    have h1 := okOp_parts h
    have := okParts_len h1
    rw [i_normal (okParts_fair h1) (by omega)]; rfl
theorem i_copyInts {l : List Int} (h : l.length ≤ 1099511627776) : x_impl_copyInts l = some l := by unfold x_impl_copyInts; rw [xg_of (by omega)]; rfl
end Go.Proofs.YtjbonmmmcnpjiaaGreatDoor
