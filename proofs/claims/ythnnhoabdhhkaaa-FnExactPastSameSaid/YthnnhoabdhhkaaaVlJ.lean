/- The verification layer, part J: struct and slice literals; lists whose elements hold lists. No condition. -/
import Derived.Test.YthnnhoabdhhkaaaVlI
import Derived.Great.BuildSlice
namespace Go.Proofs.Ythnnhoabdhhkaaa
open Go.RowKit

def evP (env : Env) : List (Nat × Operand) → Option (List (Nat × Value))
  | [] => some []
  | (i, x) :: r => match ev env x, evP env r with
    | some v, some vs => some ((i, v) :: vs)
    | _, _ => none

theorem Has.evP {n : Nat} {a : Act} {env : Env} (h : Has n a env) : ∀ {l : List (Nat × Operand)} {vs : List (Nat × Value)}, Go.Proofs.Ythnnhoabdhhkaaa.evP env l = some vs → l.map (fun p => (p.1, a.eval p.2)) = vs
  | [], vs, hv => by simp [Go.Proofs.Ythnnhoabdhhkaaa.evP] at hv; simp [hv]
  | (i, x) :: r, vs, hv => by
    unfold Go.Proofs.Ythnnhoabdhhkaaa.evP at hv
    split at hv
    · rename_i v vs' h1 h2
      simp at hv
      subst hv
      simp [h.ev h1, h.evP h2]
    · cases hv

section
variable {P : Program} {n : Nat} {ops : Array Oper} {rest : List Oper} {Q : Post} {env : Env} {w : World} {ty : TypeId} {pos : String} {af : Array Edge}
variable {T : Type} {f : T → List Value} {w0 : Base} {m : List Own} {rs : List (List Value × D)} {L : List T}

theorem r_build {d : Option Tmp} {g : Option (Nat × Bool)} {t : TypeId} {parts : List (Nat × Operand)} {vs : List (Nat × Value)} {cells : Array Value} (hp : evP env parts = some vs) (h : P.built t vs = some cells) :
    Runs P n env w ⟨d, .build t parts.toArray, ty, pos, af, g⟩ (.agg cells) w := fun a ha => by
  have h1 := ha.evP hp
  have h2 : (Instr.build t (parts.toArray.map fun p => (p.1, a.eval p.2))).run P w = .ok (.agg cells) w := run_build w t _ cells (by rw [Array.toList_map, ← h, ← h1])
  simp only [execOp, Sem.run_bind, h2, Result.andThen_ok, Sem.run_pure]

/-- A slice literal, every place written. -/
theorem w_litF {d : Nat} {t e : TypeId} {size bytes : Nat} {z : Value} {parts : List (Nat × Operand)} {vs : List (Nat × Value)} (l : List T) (len : Nat) (hd : Nat.blt d n = true) (ht : P.underlying t = some (.slice e)) (hs : Sz P e size bytes z)
    (hp : evP env parts = some vs) (hl : l.length = len) (hpos : 0 < len) (hsm : Nat.ble (len * size) 1000 = true)
    (hfill : Instr.fill (fun i => some (i * size, size)) ((Array.range (len * size)).map (z.cells[· % z.cells.size]!)) vs = some (l.flatMap f).toArray) (hfl : (l.flatMap f).length = len * size)
    (hM : St w0 m rs w) (h : ∀ v' w', St w0 (oF v' e size f l :: m) rs w' → WL P n ops rest Q ((d, v') :: env) w') :
    WL P n ops (⟨some d, .buildSlice t len parts.toArray, ty, pos, af, none⟩ :: rest) Q env w := by
  obtain ⟨i, hi, hzz, hsz, hbt⟩ := hs.info
  have hsm' := Nat.le_of_ble_eq_true hsm
  have hs0 := hs.2.2
  have hne : ¬ len * size = 0 := by
    intro e0
    rcases Nat.mul_eq_zero.1 e0 with h | h <;> omega
  refine wv hd (v := .slice (some ⟨w.heap.size, 0, none⟩) len len) (w' := w.alloc (.cells (l.flatMap f).toArray e)) (fun a ha => ?_) (h _ _ (hM.own (Rel.alloc w _) ?_ ?_))
  · have h1 := ha.evP hp
    have h2 : (parts.toArray.map fun (i, x) => (i, a.eval x)).toList = vs := by rw [Array.toList_map, ← h1]
    have h3 := run_buildSlice (P := P) w t e len (parts.toArray.map fun p => (p.1, a.eval p.2)) (l.flatMap f).toArray i z ht hi hzz (by rw [hsz]; omega) (by rw [hsz]; exact hne) (by rw [hsz, h2]; exact hfill)
    simp only [execOp, Sem.run_bind, h3, Result.andThen_ok, Sem.run_pure]
  · refine ⟨hfl.trans (by rw [hl]), .inr ⟨w.heap.size, len, (l.flatMap f).toArray, by rw [hl], Nat.zero_le _, heap_alloc_new w _, by omega, ?_, by simp [hfl], ?_⟩⟩
    · simp only [maxLen]
      have : len ≤ len * size := Nat.le_mul_of_pos_right _ hs0
      omega
    · rw [hl, List.take_of_length_le (by simp [hfl])]
  · intro b hb
    have : w.heap.size = b := by simpa [oSl, oF, Value.ownBlock] using hb
    omega

end

-- Lists whose elements hold lists

/-- Elements whose cells are known, and what these cells in turn read as. -/
def dDeep {T : Type} (k : Nat) (f : T → List Value) (inn : T → List (List Value × D)) (L : List T) : D :=
  ⟨fun S w cs => (dFs k f L).rd S w cs ∧ ∀ x ∈ L, ∀ r ∈ inn x, r.2.rd S w r.1, fun h ⟨h1, h2⟩ => ⟨(dFs k f L).mono h h1, fun x hx r hr => r.2.mono h (h2 x hx r hr)⟩⟩

/-- What the elements of a list own. -/
def oBag {T : Type} (own : T → List Own) (L : List T) : Own := oStar (L.flatMap own)

section
variable {T : Type} {k e : Nat} {f : T → List Value} {inn : T → List (List Value × D)} {own : T → List Own} {L : List T} {S : Nat → Prop} {w w' : World} {cs : List Value} {v : Value}
variable {w0 : Base} {m : List Own} {rs : List (List Value × D)} {o : Own} {d : D}

theorem Deep.fl (h : (dDeep k f inn L).rd S w cs) : (dFs k f L).rd S w cs := h.1
theorem Deep.elem (h : (dDeep k f inn L).rd S w cs) {i : Nat} (d0 : T) (hi : i < L.length) {r : List Value × D} (hr : r ∈ inn (L.getD i d0)) : r.2.rd S w r.1 := h.2 (L.getD i d0) (by
  rw [List.getD_eq_getElem?_getD, List.getElem?_eq_getElem hi]
  exact List.getElem_mem hi) r hr

theorem St.bagIn {l A B : List Own} (h : St w0 (l ++ oStar A :: m) rs w) (hp : (l ++ A).Perm B) : St w0 (oStar B :: m) rs w := by
  have h1 : St w0 (oStar A :: (l ++ m)) rs w := h.perm List.perm_middle
  have h2 := h1.split
  refine St.join (h2.perm ?_)
  rw [← List.append_assoc]
  exact (List.perm_append_comm.trans hp).append_right m

theorem St.bagOut {l A B : List Own} (h : St w0 (oStar B :: m) rs w) (hp : B.Perm (l ++ A)) : St w0 (l ++ oStar A :: m) rs w := by
  have h2 := (h.split).perm (((hp.trans List.perm_append_comm).append_right m))
  rw [List.append_assoc] at h2
  exact (St.join h2).perm (List.perm_middle (l₁ := l) (a := oStar A) (l₂ := m)).symm

theorem St.bagNil (h : St w0 m rs w) (own : T → List Own) : St w0 (oBag own [] :: m) rs w := St.join (l := []) h

theorem St.bagRep (h : St w0 m rs w) (own : T → List Own) (k : Nat) {d0 : T} (hz : ∀ o ∈ own d0, (∀ w, o.ok w) ∧ ∀ b, ¬ o.fp b) : St w0 (oBag own (List.replicate k d0) :: m) rs w := by
  have hall : ∀ o ∈ (List.replicate k d0).flatMap own, (∀ w, o.ok w) ∧ ∀ b, ¬ o.fp b := fun o ho => by
    obtain ⟨x, hx, hox⟩ := List.mem_flatMap.1 ho
    rw [List.eq_of_mem_replicate hx] at hox
    exact hz o hox
  refine h.own (Rel.refl w) ⟨fun o ho => (hall o ho).1 w, ?_⟩ fun b ⟨o, ho, hb⟩ => ((hall o ho).2 b hb).elim
  exact List.Pairwise.imp_of_mem (R := fun _ _ => True) (fun ha _ _ b hb => ((hall _ ha).2 b hb).elim) (List.pairwise_iff_getElem.2 fun _ _ _ _ _ => trivial)

theorem oF_nil {T : Type} (f : T → List Value) (e size : Nat) : (∀ w, (oF (Sv.v ⟨none, 0, 0⟩) e size f []).ok w) ∧ ∀ b, ¬ (oF (Sv.v ⟨none, 0, 0⟩) e size f []).fp b :=
  ⟨fun w => World.ownsRow_nil w 0 e size, fun b hb => by simp [oF, oSl, Sv.v, Value.ownBlock] at hb⟩
theorem oBag_nil {T : Type} (own : T → List Own) : (∀ w, (oBag own []).ok w) ∧ ∀ b, ¬ (oBag own []).fp b :=
  ⟨fun w => ⟨(fun _ h => by cases h), List.Pairwise.nil⟩, fun _ ⟨_, h, _⟩ => by cases h⟩
theorem star_sub {l : List Own} {o1 o2 : Own} (h1 : o1 ∈ l) (h2 : o2 ∈ l) {b : Nat} (h : (oStar [o1, o2]).fp b) : (oStar l).fp b := by
  obtain ⟨o, ho, hb⟩ := h
  rcases List.mem_cons.1 ho with rfl | ho
  · exact ⟨_, h1, hb⟩
  · rw [List.mem_singleton.1 ho] at hb; exact ⟨_, h2, hb⟩
theorem forall_one {α : Type} {p : α → Prop} {a : α} (h : p a) : ∀ x ∈ [a], p x := fun x hx => by rw [List.mem_singleton.1 hx]; exact h
theorem forall_cons {α : Type} {p : α → Prop} {a : α} {l : List α} (h : p a) (k : ∀ x ∈ l, p x) : ∀ x ∈ a :: l, p x := fun x hx => by
  rcases List.mem_cons.1 hx with rfl | hx
  · exact h
  · exact k x hx
theorem forall_two {α : Type} {p : α → Prop} {a b : α} (h : p a) (k : p b) : ∀ x ∈ [a, b], p x := fun x hx => by
  rcases List.mem_cons.1 hx with rfl | hx
  · exact h
  · rw [List.mem_singleton.1 hx]; exact k

theorem nil_argX {X : Nat → Prop} {w : World} (k : Nat) (f : T → List Value) : ArgX X w [.slice none 0 0] (dFs k f []) := ⟨none, 0, rfl, Nat.le_refl _, by simp [maxLen], fun hne => absurd rfl hne⟩
theorem nil_argDX {X : Nat → Prop} {w : World} (k : Nat) (f : T → List Value) (inn : T → List (List Value × D)) : ArgX X w [.slice none 0 0] (dDeep k f inn []) := ⟨⟨none, 0, rfl, Nat.le_refl _, by simp [maxLen], fun hne => absurd rfl hne⟩, fun _ h => by cases h⟩
theorem nil_argD {w : World} (k : Nat) (f : T → List Value) (inn : T → List (List Value × D)) : Arg w [.slice none 0 0] (dDeep k f inn []) := ⟨⟨none, 0, rfl, Nat.le_refl _, by simp [maxLen], fun hne => absurd rfl hne⟩, fun _ h => by cases h⟩

theorem St.bagPush {y : T} (h : St w0 (own y ++ oBag own L :: m) rs w) : St w0 (oBag own (L ++ [y]) :: m) rs w :=
  St.bagIn h (by rw [List.flatMap_append]; simpa using List.perm_append_comm)

theorem get_split (d0 : T) {i : Nat} (hi : i < L.length) : L = L.take i ++ L.getD i d0 :: L.drop (i + 1) := by
  rw [List.getD_eq_getElem?_getD, List.getElem?_eq_getElem hi]
  simp

theorem set_split {i : Nat} (y : T) (hi : i < L.length) : L.set i y = L.take i ++ y :: L.drop (i + 1) := by
  rw [List.set_eq_take_append_cons_drop, if_pos hi]

theorem bag_perm (own : T → List Own) (A B : List T) (y : T) : (own y ++ (A ++ B).flatMap own).Perm ((A ++ y :: B).flatMap own) := by
  rw [List.flatMap_append, List.flatMap_append, List.flatMap_cons, ← List.append_assoc, ← List.append_assoc]
  exact (List.perm_append_comm).append_right _

/-- One element's things are taken out of the bag, and others put in. -/
theorem St.bagOpen (h : St w0 (oBag own L :: m) rs w) {i : Nat} (d0 : T) (hi : i < L.length) : St w0 (own (L.getD i d0) ++ oBag own (L.take i ++ L.drop (i + 1)) :: m) rs w :=
  St.bagOut h (by
    have h1 := bag_perm own (L.take i) (L.drop (i + 1)) (L.getD i d0)
    rw [← get_split d0 hi] at h1
    exact h1.symm)

theorem St.bagClose {y : T} {i : Nat} (h : St w0 (own y ++ oBag own (L.take i ++ L.drop (i + 1)) :: m) rs w) (hi : i < L.length) : St w0 (oBag own (L.set i y) :: m) rs w :=
  St.bagIn h (by rw [set_split y hi]; exact bag_perm own _ _ y)

theorem St.bagSet {y : T} {i : Nat} (d0 : T) (h : St w0 (own y ++ oBag own L :: m) rs w) (hi : i < L.length) : St w0 (oBag own (L.set i y) :: m) rs w := by
  have h1 : St w0 (oBag own L :: (own y ++ m)) rs w := h.perm List.perm_middle
  have h2 := (h1.bagOpen d0 hi).drops (L := own (L.getD i d0))
  exact St.bagClose (h2.perm (List.perm_middle (l₁ := own y)).symm) hi

theorem bag_same {y : T} {i : Nat} (d0 : T) (hi : i < L.length) (he : own y = own (L.getD i d0)) : oBag own (L.set i y) = oBag own L := by
  unfold oBag
  rw [set_split y hi]
  conv => rhs; rw [get_split d0 hi]
  rw [List.flatMap_append, List.flatMap_cons, he, ← List.flatMap_cons, ← List.flatMap_append]

theorem St.bagSame {y : T} {i : Nat} (d0 : T) (h : St w0 (oBag own L :: m) rs w) (hi : i < L.length) (he : own y = own (L.getD i d0)) : St w0 (oBag own (L.set i y) :: m) rs w := by
  rw [bag_same d0 hi he]; exact h

theorem St.bagRe {L' : List T} (h : St w0 (oBag own L :: m) rs w) (he : L = L') : St w0 (oBag own L' :: m) rs w := he ▸ h

/-- What is owned reads as data, in its own blocks. -/
theorem Of.rdS (h : (oF v e k f L).ok w) (hf : ∀ x, (f x).length = k) : (dFs k f L).rd (oF v e k f L).fp w [v] := by
  rcases (h : w.ownsRow 0 e k v L.length (L.flatMap f)).2 with ⟨rfl, h0⟩ | ⟨g, cap, cur, rfl, _, hg, hnc, hcm, hcs, htk⟩
  · refine ⟨none, 0, by rw [List.length_map, h0], by rw [List.length_map]; omega, by simp [maxLen], fun hne => ?_⟩
    rw [List.eq_nil_of_length_eq_zero h0] at hne
    exact absurd rfl hne
  · refine ⟨_, cap, by rw [List.length_map], by rw [List.length_map]; omega, hcm, fun _ => ⟨g, 0, _, rfl, rfl, fun j u hj => ?_, (rdE_flat hf).2 rfl⟩⟩
    have := Osl.cell (w := w) (v := .slice (some ⟨g, 0, none⟩) L.length cap) (e := e) (size := k) (k := L.length) h hj
    simpa [eaddr] using this

theorem Deep.ofOwn (h1 : (oF v e k f L).ok w) (h2 : (oBag own L).ok w) (hf : ∀ x, (f x).length = k) (hro : ∀ x, (oStar (own x)).ok w → ∀ r ∈ inn x, r.2.rd (oStar (own x)).fp w r.1) :
    (dDeep k f inn L).rd (oStar [oF v e k f L, oBag own L]).fp w [v] := by
  refine ⟨(dFs k f L).mono (fun b hb => ⟨⟨_, by simp, hb⟩, rfl⟩) (Of.rdS h1 hf), fun x hx r hr => ?_⟩
  have h3 : (oStar (own x)).ok w := by
    refine ⟨fun o ho => h2.1 o (List.mem_flatMap.2 ⟨x, hx, ho⟩), ?_⟩
    have hsub : List.Sublist (own x) (L.flatMap own) := by
      obtain ⟨A, B, rfl⟩ := List.append_of_mem hx
      rw [List.flatMap_append, List.flatMap_cons]
      exact (List.sublist_append_left _ _).trans (List.sublist_append_right _ _)
    exact h2.2.sublist hsub
  refine r.2.mono (fun b hb => ⟨?_, rfl⟩) (hro x h3 r hr)
  obtain ⟨o, ho, hb⟩ := hb
  exact ⟨oBag own L, by simp, o, List.mem_flatMap.2 ⟨x, hx, ho⟩, hb⟩

/-- Owned rows, seen by a callee that only reads (the things L are lent to it). -/
theorem St.argO {M : List Own} (h : St w0 (M ++ m) rs w) (ho : oF v e k f L ∈ m) (hf : ∀ x, (f x).length = k) : ArgX (oStar M).fp w [v] (dFs k f L) := by
  obtain ⟨_, _, h3⟩ := List.pairwise_append.1 h.nd
  have hok := (h.ok _ (List.mem_append_right _ ho)).1
  exact (dFs k f L).mono (fun b hb => ⟨⟨Own.lt _ hb hok, fun ⟨q, hq, hb'⟩ => h3 q hq _ ho b hb' hb⟩, rfl⟩) (Of.rdS hok hf)

theorem St.argD {M : List Own} (h : St w0 (M ++ m) rs w) (ho : oF v e k f L ∈ m) (hb : oBag own L ∈ m) (hf : ∀ x, (f x).length = k) (hro : ∀ w x, (oStar (own x)).ok w → ∀ r ∈ inn x, r.2.rd (oStar (own x)).fp w r.1) : ArgX (oStar M).fp w [v] (dDeep k f inn L) := by
  obtain ⟨_, _, h3⟩ := List.pairwise_append.1 h.nd
  have hok := (h.ok _ (List.mem_append_right _ ho)).1
  have hok2 := (h.ok _ (List.mem_append_right _ hb)).1
  refine (dDeep k f inn L).mono (fun b hb' => ⟨?_, rfl⟩) (Deep.ofOwn hok hok2 hf (hro w))
  obtain ⟨o, hm, hf'⟩ := hb'
  have hmm : o ∈ m := by
    rcases List.mem_cons.1 hm with rfl | hm
    · exact ho
    · rw [List.mem_singleton.1 hm]; exact hb
  exact ⟨o.lt hf' (h.ok o (List.mem_append_right _ hmm)).1, fun ⟨q, hq, hq'⟩ => h3 q hq o hmm b hq' hf'⟩

/-- A thing that is owned, seen by a callee that only reads. -/
theorem St.seeO (h : St w0 (o :: m) rs w) (hd : d.rd o.fp w cs) : Arg w cs d := d.mono (fun _ hb => ⟨o.lt hb h.top, rfl⟩) hd

/-- What was owned is only read from now on. -/
theorem St.fixS (h : St w0 (o :: m) rs w) (hd : d.rd o.fp w cs) : St w0 m ((cs, d) :: rs) w :=
  h.drop.more (d.mono (fun b hb => ⟨⟨o.lt hb h.top, fun p hp hf => (List.pairwise_cons.1 h.nd).1 p hp b hb hf⟩, rfl⟩) hd)

theorem St.fixD (h : St w0 (oF v e k f L :: oBag own L :: m) rs w) (hf : ∀ x, (f x).length = k) (hro : ∀ w x, (oStar (own x)).ok w → ∀ r ∈ inn x, r.2.rd (oStar (own x)).fp w r.1) : St w0 m (([v], dDeep k f inn L) :: rs) w :=
  (St.join (l := [oF v e k f L, oBag own L]) h).fixS (Deep.ofOwn h.top h.drop.top hf (hro w))

theorem St.enter0 (w : World) : St ⟨w, (oStar []).fp⟩ [] [] w := St.enter ⟨(fun _ h => by cases h), List.Pairwise.nil⟩

theorem argO1 (h : ArgX S w cs d) : ArgX S w cs d := h

end

/-- One element: its cells, and what they in turn read as. -/
def dEl {T : Type} (f : T → List Value) (inn : T → List (List Value × D)) (y : T) : D :=
  ⟨fun S w cs => cs = f y ∧ ∀ r ∈ inn y, r.2.rd S w r.1, fun h ⟨h1, h2⟩ => ⟨h1, fun r hr => r.2.mono h (h2 r hr)⟩⟩

theorem rdE_deep {T : Type} {k : Nat} {f : T → List Value} {inn : T → List (List Value × D)} {S : Nat → Prop} {w : World} : ∀ {l : List T} {es : List Value}, rdE k S w (l.map (dEl f inn)) es → rdE k S w (l.map fun x => dFl (f x)) es ∧ ∀ x ∈ l, ∀ r ∈ inn x, r.2.rd S w r.1
  | [], es, h => ⟨h, fun _ h => by cases h⟩
  | x :: l, es, h => by
    obtain ⟨c1, c2, e, hl, ⟨h1, h2⟩, h3⟩ := h
    obtain ⟨h4, h5⟩ := rdE_deep h3
    refine ⟨⟨c1, c2, e, hl, h1, h4⟩, fun y hy => ?_⟩
    rcases List.mem_cons.1 hy with rfl | hy
    · exact h2
    · exact h5 y hy

theorem opens_deep {P : Program} {t e : TypeId} {T : Type} {k : Nat} {f : T → List Value} {inn : T → List (List Value × D)} (ht : P.underlying t = some (.slice e)) (hk : P.cellsOf e = k) (h0 : 0 < k) (he : Opens P e (dEl f inn) k) : Opens P t (fun l : List T => dDeep k f inn l) 1 := by
  intro H enc w base spare held fuel cs x h
  obtain ⟨h1, l, a, cap, e1, h2, h3, h4⟩ := opens_slice ht hk h0 he enc w base spare held fuel cs x h
  refine ⟨h1, l, ⟨a, cap, by rw [e1, List.length_map, List.length_map], by rw [List.length_map] at h2 ⊢; exact h2, h3, fun hne => ?_⟩, ?_⟩
  · obtain ⟨b, off, es, ea, hb, hc, hr⟩ := h4 (by intro e; apply hne; cases l with | nil => rfl | cons _ _ => simp at e)
    exact ⟨b, off, es, ea, hb, hc, (rdE_deep hr).1⟩
  · by_cases hl : l = []
    · subst hl; intro _ h; cases h
    · obtain ⟨b, off, es, ea, hb, hc, hr⟩ := h4 (by intro e; apply hl; cases l with | nil => rfl | cons _ _ => simp at e)
      exact (rdE_deep hr).2

end Go.Proofs.Ythnnhoabdhhkaaa
