/- Lists whose elements hold lists: parts. No condition. -/
import Derived.Test.YthnnhoabdhhkaaaVlJ
import Derived.Test.YthnnhoabdhhkaaaMathB
import Derived.Test.YthnnhoabdhhkaaaMathM
import Derived.Test.YthnnhoabdhhkaaaMathP
namespace Go.Proofs.Ythnnhoabdhhkaaa
open Go.RowKit

structure PV where
  kind : Int
  n : Int
  sv : Sv
  sl : List Int
def pv0 : PV := ⟨0, 0, ⟨none, 0, 0⟩, []⟩
def PV.a (p : PV) : Pt := ⟨p.kind, p.n, p.sl⟩
def fP (p : PV) : List Value := [.int .i64 p.kind, .int .i64 p.n, p.sv.v]
def iP (p : PV) : List (List Value × D) := [([p.sv.v], dFs 1 fI p.sl)]
/-- What a list of parts says. -/
def pa (l : List PV) : List Pt := l.map PV.a

theorem pa_len (l : List PV) : (pa l).length = l.length := List.length_map ..
theorem pa_get (l : List PV) (i : Nat) : (pa l).getD i pv0.a = (l.getD i pv0).a := by
  unfold pa
  simp only [List.getD_eq_getElem?_getD, List.getElem?_map]
  cases l[i]? <;> rfl
theorem pa_take (l : List PV) (i : Nat) : pa (l.take i) = (pa l).take i := by unfold pa; rw [List.map_take]
theorem pa_mem {l : List PV} {i : Nat} (h : i < l.length) : (l.getD i pv0).a ∈ pa l := List.mem_map.2 ⟨_, mem_getD h, rfl⟩
theorem pa_sum (g : Pt → Int) (l : List PV) (i : Nat) (h : i < l.length) : sumBy g (pa (l.take (i + 1))) = sumBy g (pa (l.take i)) + g (l.getD i pv0).a := by
  rw [pa_take, pa_take, sumBy_take g (pa l) i pv0.a (by rw [pa_len]; exact h), pa_get]

theorem parts_step {o : List PV} {k : Nat} (hk : k < o.length) (h : (pa (o.take k)).all partOk = true) (hp : partOk (o.getD k pv0).a = true) : (pa (o.take (k + 1))).all partOk = true := by
  rw [pa_take, all_take _ _ _ pv0.a (by rw [pa_len]; exact hk), ← pa_take, h, pa_get, hp]; rfl
theorem parts_no {o : List PV} {k : Nat} (hk : k < o.length) (hp : partOk (o.getD k pv0).a = false) : partsOk (pa o) = false := by
  unfold partsOk
  rw [all_false (pa o) k pv0.a partOk (by rw [pa_len]; exact hk) (by rw [pa_get]; exact hp)]; rfl
theorem parts_end {o : List PV} {k : Nat} (hk : o.length ≤ k) (h : (pa (o.take k)).all partOk = true) : partsOk (pa o) = decide ((o.length : Int) ≤ 600) := by
  rw [List.take_of_length_le hk] at h
  unfold partsOk
  rw [h, pa_len]; rfl
theorem sz_yes {o : List PV} {g : Pt → Int} {k : Nat} (h : partsOk (pa o) = true) (hk : o.length ≤ k) : sumBy g (pa (o.take k)) = if partsOk (pa o) then sumBy g (pa o) else 0 := by
  rw [List.take_of_length_le hk, h]; rfl
theorem szk_yes {o : List PV} {g : Pt → Int} {k : Nat} (h : opOk (pa o) = true) (hk : o.length ≤ k) : sumBy g (pa (o.take k)) = if opOk (pa o) then sumBy g (pa o) else 0 := by
  rw [List.take_of_length_le hk, h]; rfl

theorem pa_full {o : List PV} {k : Nat} (hk : o.length ≤ k) : pa (o.take k) = pa o := by rw [List.take_of_length_le hk]
theorem pa_set_step {L a : List PV} {k : Nat} {y : PV} (hl : L.length = a.length) (hk : k < a.length) (h : pa (L.take k) = pa (a.take k)) (hy : y.a = (a.getD k pv0).a) : pa ((L.set k y).take (k + 1)) = pa (a.take (k + 1)) := by
  rw [take_snoc _ k pv0 (by rw [List.length_set]; omega), take_snoc a k pv0 hk, List.take_set_of_le (Nat.le_refl _)]
  unfold pa at h ⊢
  rw [List.map_append, List.map_append, h]
  congr 1
  simp only [List.map_cons, List.map_nil]
  rw [List.getD_eq_getElem?_getD, List.getElem?_set_self (by omega), Option.getD_some, hy]
theorem pa_eq_step {a b : List PV} {k : Nat} (ha : k < a.length) (hb : k < b.length) (h : pa (a.take k) = pa (b.take k)) (he : (a.getD k pv0).a = (b.getD k pv0).a) : pa (a.take (k + 1)) = pa (b.take (k + 1)) := by
  rw [take_snoc a k pv0 ha, take_snoc b k pv0 hb]
  unfold pa at h ⊢
  rw [List.map_append, List.map_append, h]
  exact congrArg (fun x => _ ++ [x]) he
theorem pa_ne_len {a b : List PV} (h : ¬ (a.length : Int) = (b.length : Int)) : false = decide (pa a = pa b) := (decide_eq_false fun e => h (by rw [← pa_len a, ← pa_len b, e])).symm
theorem pa_ne_get {a b : List PV} {k : Nat} (h : ¬ (a.getD k pv0).a = (b.getD k pv0).a) : false = decide (pa a = pa b) := (decide_eq_false fun e => h (by rw [← pa_get, ← pa_get, e])).symm
theorem pa_eq_end {a b : List PV} {k : Nat} (ha : a.length ≤ k) (hb : b.length ≤ k) (h : pa (a.take k) = pa (b.take k)) : true = decide (pa a = pa b) := by
  rw [pa_full ha, pa_full hb] at h
  exact (decide_eq_true h).symm
theorem ptEq_1 {a b : PV} (h : ¬ a.kind = b.kind) : false = decide (a.a = b.a) := (decide_eq_false fun e => h (Pt.eq_iff.1 e).1).symm
theorem ptEq_2 {a b : PV} (h : ¬ a.n = b.n) : false = decide (a.a = b.a) := (decide_eq_false fun e => h (Pt.eq_iff.1 e).2.1).symm
theorem ptEq_3 {a b : PV} (h : ¬ a.sl = b.sl) : false = decide (a.a = b.a) := (decide_eq_false fun e => h (Pt.eq_iff.1 e).2.2).symm
theorem ptEq_y {a b : PV} (h1 : a.kind = b.kind) (h2 : a.n = b.n) (h3 : a.sl = b.sl) : true = decide (a.a = b.a) := (decide_eq_true (Pt.eq_iff.2 ⟨h1, h2, h3⟩)).symm
theorem all_step {T : Type} {p : T → Prop} {a : List T} {k : Nat} (d0 : T) (hk : k < a.length) (h : ∀ x ∈ a.take k, p x) (hp : p (a.getD k d0)) : ∀ x ∈ a.take (k + 1), p x := by
  rw [take_snoc a k d0 hk]
  intro x hx
  rcases List.mem_append.1 hx with hx | hx
  · exact h x hx
  · rw [List.mem_singleton.1 hx]; exact hp
theorem all_full {T : Type} {p : T → Prop} {a : List T} {k : Nat} (hk : a.length ≤ k) (h : ∀ x ∈ a.take k, p x) : ∀ x ∈ a, p x := by
  rwa [List.take_of_length_le hk] at h

theorem ptEq_and (a b : PV) : (decide (a.kind = b.kind) && decide (a.n = b.n) && decide (a.sl = b.sl)) = decide (a.a = b.a) := by
  rw [Bool.eq_iff_iff]
  simp only [Bool.and_eq_true, decide_eq_true_eq, Pt.eq_iff]
  exact and_assoc
theorem ptNe_or {a b : PV} : (!decide (a.kind = b.kind) || !decide (a.n = b.n) || !decide (a.sl = b.sl)) = !decide (a.a = b.a) := by
  rw [← ptEq_and]
  cases decide (a.kind = b.kind) <;> cases decide (a.n = b.n) <;> rfl

-- The same for any elements: what a list says is 'l.map f'
section
variable {T A : Type} {f : T → A} {a b L : List T} {k : Nat} {d0 : T}
theorem m_get (f : T → A) (l : List T) (i : Nat) (d0 : T) : (l.map f).getD i (f d0) = f (l.getD i d0) := by
  simp only [List.getD_eq_getElem?_getD, List.getElem?_map]
  cases l[i]? <;> rfl
theorem m_full (hk : L.length ≤ k) : (L.take k).map f = L.map f := by rw [List.take_of_length_le hk]
theorem m_set_step (d0 : T) {y : T} (hl : L.length = a.length) (hk : k < a.length) (h : (L.take k).map f = (a.take k).map f) (hy : f y = f (a.getD k d0)) : ((L.set k y).take (k + 1)).map f = (a.take (k + 1)).map f := by
  rw [take_snoc _ k d0 (by rw [List.length_set]; omega), take_snoc a k d0 hk, List.take_set_of_le (Nat.le_refl _), List.map_append, List.map_append, h]
  congr 1
  simp only [List.map_cons, List.map_nil]
  rw [List.getD_eq_getElem?_getD, List.getElem?_set_self (by omega), Option.getD_some, hy]
theorem m_eq_step (d0 : T) (ha : k < a.length) (hb : k < b.length) (h : (a.take k).map f = (b.take k).map f) (he : f (a.getD k d0) = f (b.getD k d0)) : (a.take (k + 1)).map f = (b.take (k + 1)).map f := by
  rw [take_snoc a k d0 ha, take_snoc b k d0 hb, List.map_append, List.map_append, h]
  exact congrArg (fun x => _ ++ [x]) he
variable [DecidableEq A]
theorem m_ne_len (h : ¬ (a.length : Int) = (b.length : Int)) : false = decide (a.map f = b.map f) := (decide_eq_false fun e => h (by rw [← List.length_map (f := f) (as := a), ← List.length_map (f := f) (as := b), e])).symm
theorem m_ne_get (d0 : T) (h : ¬ f (a.getD k d0) = f (b.getD k d0)) : false = decide (a.map f = b.map f) := (decide_eq_false fun e => h (by rw [← m_get f a k d0, ← m_get f b k d0, e])).symm
theorem m_eq_end (ha : a.length ≤ k) (hb : b.length ≤ k) (h : (a.take k).map f = (b.take k).map f) : true = decide (a.map f = b.map f) := by
  rw [m_full ha, m_full hb] at h
  exact (decide_eq_true h).symm
end

structure OV where
  sv : Sv
  l : List PV
def ov0 : OV := ⟨⟨none, 0, 0⟩, []⟩
def OV.a (o : OV) : List Pt := pa o.l
def fO (o : OV) : List Value := [o.sv.v]
def iO (o : OV) : List (List Value × D) := [([o.sv.v], dDeep 3 fP iP o.l)]

structure EV where
  client : Int
  seq : Int
  sv : Sv
  l : List PV
structure Ent where
  client : Int
  seq : Int
  o : List Pt
deriving DecidableEq
def ev0 : EV := ⟨0, 0, ⟨none, 0, 0⟩, []⟩
def EV.a (e : EV) : Ent := ⟨e.client, e.seq, pa e.l⟩
def fE (e : EV) : List Value := [.int .i64 e.client, .int .i64 e.seq, e.sv.v]
def iE (e : EV) : List (List Value × D) := [([e.sv.v], dDeep 3 fP iP e.l)]

structure SV where
  n : Int
  uv : Sv
  ul : List OV
  rv : Sv
  rl : List OV
structure Sto where
  n : Int
  u : List (List Pt)
  r : List (List Pt)
deriving DecidableEq
def st0 : SV := ⟨0, ⟨none, 0, 0⟩, [], ⟨none, 0, 0⟩, []⟩
def SV.a (s : SV) : Sto := ⟨s.n, s.ul.map OV.a, s.rl.map OV.a⟩
def fS (s : SV) : List Value := [.int .i64 s.n, s.uv.v, s.rv.v]
def iS (s : SV) : List (List Value × D) := [([s.uv.v], dDeep 1 fO iO s.ul), ([s.rv.v], dDeep 1 fO iO s.rl)]

/-- No list in it is longer than so. -/
def okP (n : Int) (l : List PV) : Prop := (l.length : Int) ≤ n ∧ ∀ p ∈ l, (p.sl.length : Int) ≤ n
def okO (n : Int) (l : List OV) : Prop := (l.length : Int) ≤ n ∧ ∀ o ∈ l, okP n o.l
def okE (n : Int) (l : List EV) : Prop := (l.length : Int) ≤ n ∧ ∀ o ∈ l, okP n o.l
theorem okP.mono {m n : Int} {l : List PV} (h : okP m l) (hm : m ≤ n) : okP n l := ⟨by have := h.1; omega, fun p hp => by have := h.2 p hp; omega⟩
theorem okO.mono {m n : Int} {l : List OV} (h : okO m l) (hm : m ≤ n) : okO n l := ⟨by have := h.1; omega, fun p hp => (h.2 p hp).mono hm⟩
theorem okP_of {n y : Int} {l : List PV} (h : y < 0 ∨ (0 ≤ y ∧ y ≤ n ∧ (l.length : Int) ≤ n ∧ ∀ p ∈ l, (p.sl.length : Int) ≤ n)) (hy : ¬ y < 0) : okP n l := ⟨(h.resolve_left hy).2.2.1, (h.resolve_left hy).2.2.2⟩

theorem stoEq_1 {a b : SV} (h : ¬ a.n = b.n) : false = decide (a.a = b.a) := (decide_eq_false fun e => h (congrArg Sto.n e)).symm
theorem stoEq_2 {a b : SV} (h : ¬ a.ul.map OV.a = b.ul.map OV.a) : false = decide (a.a = b.a) := (decide_eq_false fun e => h (congrArg Sto.u e)).symm
theorem stoEq_3 {a b : SV} (h : ¬ a.rl.map OV.a = b.rl.map OV.a) : false = decide (a.a = b.a) := (decide_eq_false fun e => h (congrArg Sto.r e)).symm
theorem Sto.ext' {a b : Sto} (h1 : a.n = b.n) (h2 : a.u = b.u) (h3 : a.r = b.r) : a = b := by cases a; cases b; simp_all
theorem stoEq_y {a b : SV} (h1 : a.n = b.n) (h2 : a.ul.map OV.a = b.ul.map OV.a) (h3 : a.rl.map OV.a = b.rl.map OV.a) : true = decide (a.a = b.a) := (decide_eq_true (Sto.ext' h1 h2 h3)).symm
theorem stoEq_and (a b : SV) : (decide (a.n = b.n) && decide (a.ul.map OV.a = b.ul.map OV.a) && decide (a.rl.map OV.a = b.rl.map OV.a)) = decide (a.a = b.a) := by
  rw [Bool.eq_iff_iff]
  simp only [Bool.and_eq_true, decide_eq_true_eq]
  exact ⟨fun h => Sto.ext' h.1.1 h.1.2 h.2, fun h => ⟨⟨congrArg Sto.n h, congrArg Sto.u h⟩, congrArg Sto.r h⟩⟩

theorem ps_len {p q : SV} (h : (p.n = q.n ∧ p.ul.length = q.ul.length) ∧ p.rl.length = q.rl.length) : p.n = q.n ∧ p.ul.length = q.ul.length ∧ p.rl.length = q.rl.length := ⟨h.1.1, h.1.2, h.2⟩
theorem ps_no {p q : SV} (h : (p.n = q.n → p.ul.length = q.ul.length → ¬ p.rl.length = q.rl.length)) : false = decide (p.a = q.a) := (decide_eq_false fun e => h (congrArg Sto.n e) (by have := congrArg (fun s => s.u.length) e; simpa [SV.a] using this) (by have := congrArg (fun s => s.r.length) e; simpa [SV.a] using this)).symm

theorem opens_ov {P : Program} {t : TypeId} (h : Opens P t (fun l : List PV => dDeep 3 fP iP l) 1) : Opens P t (dEl fO iO) 1 := fun enc w base spare held fuel cs x hx => by
  obtain ⟨h1, l, hl⟩ := h enc w base spare held fuel cs x hx
  match cs, h1 with
  | [v], _ =>
    obtain ⟨s, rfl⟩ := Fs.sv (Deep.fl hl)
    exact ⟨rfl, ⟨s, l⟩, rfl, forall_one hl⟩

end Go.Proofs.Ythnnhoabdhhkaaa
