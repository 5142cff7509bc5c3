/- The second layer, part B: assertions on sets of cells; data in memory; the state of a call in progress. No condition. -/
import Derived.Test.YtjbonmmmcnpjiaaGreatDoorVlA
namespace Go.Proofs.YtjbonmmmcnpjiaaGreatDoor
open Go.RowKit

/-- A set of cells: block and place. -/
abbrev Bs := Nat × Nat → Prop

/-- Nothing that was there has changed. -/
def Rel (w w' : World) : Prop := Below w.heap.size w w'

theorem Rel.refl (w : World) : Rel w w := Below.refl _ _
theorem Rel.size {w w' : World} (h : Rel w w') : w.heap.size ≤ w'.heap.size := Below.size h
theorem Rel.trans {a b c : World} (h : Rel a b) (k : Rel b c) : Rel a c := Below.trans h (Below.mono k h.size)
theorem Rel.block {w w' : World} (h : Rel w w') {b : Nat} (hb : b < w.heap.size) : w'.heap[b]? = w.heap[b]? := Below.block h b hb
theorem Rel.cell {w w' : World} (h : Rel w w') {a : Addr} (hb : a.block < w.heap.size) : w'.cell? a = w.cell? a := Below.cell h hb
theorem Rel.alloc (w : World) (o : Obj) : Rel w (w.alloc o) := (Below.refl _ _).alloc (Nat.le_refl _) o
theorem Rel.drew {w w' : World} (h : Rel w w') : Rel w w'.drew := Below.drew h

/-- A block of which only the cells X may have changed. -/
def Blk (X : Nat → Prop) (o o' : Option Obj) : Prop :=
  o' = o ∨ ∃ (cur cur' : Array Value) (e : TypeId) (hd : Nat × Nat), o = some (.cells cur e hd) ∧ o' = some (.cells cur' e hd) ∧ cur'.size = cur.size ∧ ∀ i, ¬ X i → cur'[i]? = cur[i]?
theorem Blk.mono {X Y : Nat → Prop} {o o' : Option Obj} (h : Blk X o o') (hs : ∀ i, X i → Y i) : Blk Y o o' :=
  h.imp id fun ⟨c, c', e, hd, h1, h2, h3, h4⟩ => ⟨c, c', e, hd, h1, h2, h3, fun i hi => h4 i fun hx => hi (hs i hx)⟩
theorem Blk.trans {X : Nat → Prop} {o p q : Option Obj} (h : Blk X o p) (k : Blk X p q) : Blk X o q := by
  rcases h with rfl | ⟨c, c', e, hd, h1, h2, h3, h4⟩
  · exact k
  · rcases k with rfl | ⟨d, d', e', hd', k1, k2, k3, k4⟩
    · exact .inr ⟨c, c', e, hd, h1, h2, h3, h4⟩
    · rw [h2] at k1
      obtain ⟨rfl, rfl, rfl⟩ : c' = d ∧ e = e' ∧ hd = hd' := by simpa using k1
      exact .inr ⟨c, d', e, hd, h1, k2, k3.trans h3, fun i hi => (k4 i hi).trans (h4 i hi)⟩
theorem Blk.same {X : Nat → Prop} {o o' : Option Obj} (h : Blk X o o') (hn : ∀ i, ¬ X i) : o' = o := by
  rcases h with h | ⟨c, c', e, hd, h1, h2, _, h4⟩
  · exact h
  · have : c' = c := Array.ext_getElem? fun i => h4 i (hn i)
    rw [h1, h2, this]

/-- Nothing that was there has changed but cells of X. -/
structure Kp (X : Bs) (w w' : World) : Prop where
  size : w.heap.size ≤ w'.heap.size
  block : ∀ b, b < w.heap.size → Blk (fun i => X (b, i)) w.heap[b]? w'.heap[b]?
theorem Kp.refl (X : Bs) (w : World) : Kp X w w := ⟨Nat.le_refl _, fun _ _ => .inl rfl⟩
theorem Kp.mono {X Y : Bs} {w w' : World} (h : Kp X w w') (hs : ∀ b, X b → Y b) : Kp Y w w' := ⟨h.size, fun b hb => (h.block b hb).mono fun _ hx => hs _ hx⟩
theorem Kp.trans {X : Bs} {a b c : World} (h : Kp X a b) (k : Kp X b c) : Kp X a c := ⟨Nat.le_trans h.size k.size, fun i hi => (h.block i hi).trans (k.block i (Nat.lt_of_lt_of_le hi h.size))⟩
/-- The cells F are as they were. -/
abbrev Lc (F : Bs) (w w' : World) : Prop := Kp (fun x => ¬ F x) w w'
theorem Lc.refl (F : Bs) (w : World) : Lc F w w := Kp.refl _ w
theorem Lc.sub {F G : Bs} {w w' : World} (h : Lc F w w') (hs : ∀ b, G b → F b) : Lc G w w' := Kp.mono h fun _ hx hg => hx (hs _ hg)
theorem Lc.cells {F : Bs} {w w' : World} (h : Lc F w w') {b : Nat} {cur : Array Value} {e : TypeId} {hd : Nat × Nat} (hg : w.heap[b]? = some (.cells cur e hd)) :
    ∃ cur' : Array Value, w'.heap[b]? = some (.cells cur' e hd) ∧ cur'.size = cur.size ∧ ∀ i, F (b, i) → cur'[i]? = cur[i]? := by
  have hb : b < w.heap.size := (Array.getElem?_eq_some_iff.1 hg).1
  rcases h.block b hb with h | ⟨c, c', e', hd', h1, h2, h3, h4⟩
  · exact ⟨cur, h.trans hg, rfl, fun _ _ => rfl⟩
  · rw [hg] at h1
    obtain ⟨rfl, rfl, rfl⟩ : cur = c ∧ e = e' ∧ hd = hd' := by simpa using h1
    exact ⟨c', h2, h3, fun i hi => h4 i fun h => h hi⟩
theorem cell_inv {w : World} {b i : Nat} {u : Value} (h : w.cell? ⟨b, i, none⟩ = some u) : ∃ (cur : Array Value) (e : TypeId) (hd : Nat × Nat), w.heap[b]? = some (.cells cur e hd) ∧ cur[i]? = some u := by
  unfold World.cell? at h
  simp only at h
  cases hg : w.heap[b]? with
  | none => rw [hg] at h; cases h
  | some o =>
    rw [hg] at h
    cases o with
    | cells cur e hd => exact ⟨cur, e, hd, rfl, by simpa using h⟩
    | _ => cases h
theorem cell_of {w : World} {b i : Nat} {cur : Array Value} {e : TypeId} {hd : Nat × Nat} (hg : w.heap[b]? = some (.cells cur e hd)) : w.cell? ⟨b, i, none⟩ = cur[i]? := by simp [World.cell?, hg]
theorem Lc.cell {F : Bs} {w w' : World} (h : Lc F w w') {b i : Nat} {u : Value} (hF : F (b, i)) (hc : w.cell? ⟨b, i, none⟩ = some u) : w'.cell? ⟨b, i, none⟩ = some u := by
  obtain ⟨cur, e, hd, hg, hu⟩ := cell_inv hc
  obtain ⟨cur', hg', _, hs⟩ := h.cells hg
  rw [cell_of hg', hs i hF]
  exact hu
theorem take_same {cur cur' : Array Value} {o n : Nat} (h : ∀ j, j < n → cur'[o + j]? = cur[o + j]?) : (cur'.toList.drop o).take n = (cur.toList.drop o).take n :=
  List.ext_getElem? fun j => by
    rw [List.getElem?_take, List.getElem?_take]
    split
    · rename_i hj
      rw [List.getElem?_drop, List.getElem?_drop, Array.getElem?_toList, Array.getElem?_toList]
      exact h j hj
    · rfl

/-- The same but for the cells X, which are lent to the call. -/
structure RelX (X : Bs) (w w' : World) : Prop where
  os : w'.os = w.os
  tape : w'.tape = w.tape
  output : w'.output = w.output
  kp : Kp X w w'

theorem RelX.size {X : Bs} {w w' : World} (h : RelX X w w') : w.heap.size ≤ w'.heap.size := h.kp.size
theorem RelX.lc {X F : Bs} {w w' : World} (h : RelX X w w') (hd : ∀ b, F b → ¬ X b) : Lc F w w' := h.kp.mono fun b hx hf => hd b hf hx
theorem Rel.x {w w' : World} (h : Rel w w') (X : Bs) : RelX X w w' := ⟨Below.os h, Below.tape h, Below.output h, h.size, fun _ hk => .inl (h.block hk)⟩
theorem Rel.lc {w w' : World} (h : Rel w w') (F : Bs) : Lc F w w' := (h.x _).kp
theorem RelX.rel {X : Bs} {w w' : World} (h : RelX X w w') (hn : ∀ b, ¬ X b) : Rel w w' := ⟨h.os, h.tape, h.output, h.size, fun k hk => (h.kp.block k hk).same fun _ => hn _⟩
theorem RelX.refl (X : Bs) (w : World) : RelX X w w := (Rel.refl w).x X
theorem RelX.trans {X : Bs} {a b c : World} (h : RelX X a b) (k : RelX X b c) : RelX X a c := ⟨k.os.trans h.os, k.tape.trans h.tape, k.output.trans h.output, h.kp.trans k.kp⟩
theorem RelX.mono {X Y : Bs} {w w' : World} (h : RelX X w w') (hs : ∀ b, X b → Y b) : RelX Y w w' := ⟨h.os, h.tape, h.output, h.kp.mono hs⟩
/-- A step that changes Y, seen from a call that was lent X and has made the rest. -/
theorem RelX.step {X Y : Bs} {a b c : World} (h : RelX X a b) (k : RelX Y b c) (hy : ∀ i, Y i → a.heap.size ≤ i.1 ∨ X i) : RelX X a c :=
  ⟨k.os.trans h.os, k.tape.trans h.tape, k.output.trans h.output, Nat.le_trans h.size k.size, fun i hi => (h.kp.block i hi).trans ((k.kp.block i (Nat.lt_of_lt_of_le hi h.size)).mono fun j hj => by
    rcases hy _ hj with h' | h'
    · have : a.heap.size ≤ i := h'
      omega
    · exact h')⟩

/-- An assertion on a set of cells. -/
structure As where
  ok : Bs → World → Prop
  loc : ∀ {F : Bs} {w w' : World}, Lc F w w' → ok F w → ok F w'
  lt : ∀ {F : Bs} {w : World} {b : Nat × Nat}, ok F w → F b → b.1 < w.heap.size
  up : ∀ {F F' : Bs} {w : World}, (∀ b, F b → F' b) → (∀ b, F' b → b.1 < w.heap.size) → ok F w → ok F' w

theorem lt_loc {F : Bs} {w w' : World} (h : Lc F w w') (hl : ∀ b, F b → b.1 < w.heap.size) : ∀ b, F b → b.1 < w'.heap.size := fun b hb => Nat.lt_of_lt_of_le (hl b hb) h.size

/-- Several assertions, on sets that have nothing in common. -/
def Sep : List As → Bs → World → Prop
  | [], F, w => ∀ b, F b → b.1 < w.heap.size
  | a :: m, F, w => (∀ b, F b → b.1 < w.heap.size) ∧ ∃ F1 F2 : Bs, a.ok F1 w ∧ Sep m F2 w ∧ (∀ b, F1 b → ¬ F2 b) ∧ (∀ b, F1 b → F b) ∧ (∀ b, F2 b → F b)

theorem Sep.lt {F : Bs} {w : World} : ∀ {m : List As}, Sep m F w → ∀ b, F b → b.1 < w.heap.size
  | [], h => h
  | _ :: _, h => h.1

theorem Sep.up {F F' : Bs} {w : World} (hs : ∀ b, F b → F' b) (hl : ∀ b, F' b → b.1 < w.heap.size) : ∀ {m : List As}, Sep m F w → Sep m F' w
  | [], _ => hl
  | _ :: _, ⟨_, F1, F2, h1, h2, h3, h4, h5⟩ => ⟨hl, F1, F2, h1, h2, h3, fun b hb => hs b (h4 b hb), fun b hb => hs b (h5 b hb)⟩

theorem Sep.loc {F : Bs} {w w' : World} (h : Lc F w w') : ∀ {m : List As}, Sep m F w → Sep m F w'
  | [], hk => lt_loc h hk
  | _ :: _, ⟨h0, F1, F2, h1, h2, h3, h4, h5⟩ => ⟨lt_loc h h0, F1, F2, As.loc _ (h.sub h4) h1, h2.loc (h.sub h5), h3, h4, h5⟩

theorem Sep.swap {F : Bs} {w : World} {a c : As} {m : List As} (h : Sep (a :: c :: m) F w) : Sep (c :: a :: m) F w := by
  obtain ⟨h0, F1, F2, h1, ⟨h2, F3, F4, h3, h4, h5, h6, h7⟩, h8, h9, h10⟩ := h
  refine ⟨h0, F3, fun b => F1 b ∨ F4 b, h3, ⟨fun b hb => ?_, F1, F4, h1, h4, fun b hb h' => h8 b hb (h7 b h'), fun _ h => .inl h, fun _ h => .inr h⟩, fun b hb h' => ?_, fun b hb => h10 b (h6 b hb), fun b hb => ?_⟩
  · rcases hb with hb | hb
    · exact h0 b (h9 b hb)
    · exact h2 b (h7 b hb)
  · rcases h' with h' | h'
    · exact h8 b h' (h6 b hb)
    · exact h5 b hb h'
  · rcases hb with hb | hb
    · exact h9 b hb
    · exact h10 b (h7 b hb)

theorem Sep.cons_mono {F : Bs} {w : World} {a : As} {m m' : List As} (h : Sep (a :: m) F w) (hm : ∀ F, Sep m F w → Sep m' F w) : Sep (a :: m') F w := by
  obtain ⟨h0, F1, F2, h1, h2, h3, h4, h5⟩ := h
  exact ⟨h0, F1, F2, h1, hm _ h2, h3, h4, h5⟩

theorem Sep.tail {F : Bs} {w : World} {a : As} {m : List As} (h : Sep (a :: m) F w) : Sep m F w := by
  obtain ⟨h0, F1, F2, h1, h2, h3, h4, h5⟩ := h
  exact h2.up h5 h0

theorem Sep.perm {w : World} {m m' : List As} (hp : m.Perm m') : ∀ {F : Bs}, Sep m F w → Sep m' F w := by
  induction hp with
  | nil => exact fun h => h
  | cons a _ ih => exact fun h => h.cons_mono fun _ => ih
  | swap a b l => exact fun h => h.swap
  | trans _ _ ih1 ih2 => exact fun h => ih2 (ih1 h)

theorem Sep.split {w : World} : ∀ {l m : List As} {F : Bs}, Sep (l ++ m) F w → ∃ F1 F2 : Bs, Sep l F1 w ∧ Sep m F2 w ∧ (∀ b, F1 b → ¬ F2 b) ∧ (∀ b, F1 b → F b) ∧ (∀ b, F2 b → F b)
  | [], m, F, h => ⟨fun _ => False, F, (fun _ h => h.elim), h, (fun _ h => h.elim), (fun _ h => h.elim), fun _ h => h⟩
  | a :: l, m, F, ⟨h0, F1, F2, h1, h2, h3, h4, h5⟩ => by
    obtain ⟨G1, G2, g1, g2, g3, g4, g5⟩ := Sep.split h2
    refine ⟨fun b => F1 b ∨ G1 b, G2, ⟨fun b hb => ?_, F1, G1, h1, g1, fun b hb h' => h3 b hb (g4 b h'), fun _ h => .inl h, fun _ h => .inr h⟩, g2, fun b hb h' => ?_, fun b hb => ?_, fun b hb => h5 b (g5 b hb)⟩
    · rcases hb with hb | hb
      · exact h0 b (h4 b hb)
      · exact h0 b (h5 b (g4 b hb))
    · rcases hb with hb | hb
      · exact h3 b hb (g5 b h')
      · exact g3 b hb h'
    · rcases hb with hb | hb
      · exact h4 b hb
      · exact h5 b (g4 b hb)

theorem Sep.join {w : World} : ∀ {l m : List As} {F1 F2 : Bs}, Sep l F1 w → Sep m F2 w → (∀ b, F1 b → ¬ F2 b) → Sep (l ++ m) (fun b => F1 b ∨ F2 b) w
  | [], m, F1, F2, h1, h2, _ => h2.up (fun _ h => .inr h) fun b hb => by
    rcases hb with hb | hb
    · exact h1 b hb
    · exact h2.lt b hb
  | a :: l, m, F1, F2, ⟨h0, G1, G2, g1, g2, g3, g4, g5⟩, h2, hd => by
    have ih := Sep.join g2 h2 fun b hb => hd b (g5 b hb)
    refine ⟨fun b hb => ?_, G1, _, g1, ih, fun b hb h' => ?_, fun b hb => .inl (g4 b hb), fun b hb => ?_⟩
    · rcases hb with hb | hb
      · exact h0 b hb
      · exact h2.lt b hb
    · rcases h' with h' | h'
      · exact g3 b hb h'
      · exact hd b (g4 b hb) h'
    · rcases hb with hb | hb
      · exact .inl (g5 b hb)
      · exact .inr hb

/-- What lies in one cell. -/
structure Ce where
  rd : Bs → World → Value → Prop
  mono : ∀ {S S' : Bs} {w w' : World} {v : Value}, (∀ b, S b → S' b) → Lc S w w' → rd S w v → rd S' w' v
  ow : Bs → World → Value → Prop
  loc : ∀ {F : Bs} {w w' : World} {v : Value}, Lc F w w' → ow F w v → ow F w' v
  lt : ∀ {F : Bs} {w : World} {v : Value} {b : Nat × Nat}, ow F w v → F b → b.1 < w.heap.size
  up : ∀ {F F' : Bs} {w : World} {v : Value}, (∀ b, F b → F' b) → (∀ b, F' b → b.1 < w.heap.size) → ow F w v → ow F' w v
  seen : ∀ {F : Bs} {w : World} {v : Value}, ow F w v → rd F w v
  one : ∀ {S : Bs} {w : World} {v : Value}, rd S w v → v.oneCell' = true

/-- One known cell. -/
def cV (u : Value) (hu : u.oneCell' = true := by rfl) : Ce where
  rd := fun _ _ v => v = u
  mono := fun _ _ h => h
  ow := fun F w v => v = u ∧ ∀ b, F b → b.1 < w.heap.size
  loc := fun h hk => ⟨hk.1, lt_loc h hk.2⟩
  lt := fun hk hb => hk.2 _ hb
  up := fun _ hl hk => ⟨hk.1, hl⟩
  seen := fun hk => hk.1
  one := fun hk => hk ▸ hu

def cI (n : Int) : Ce := cV (.int .i64 n)
def cB (b : Bool) : Ce := cV (.bool b)
def cT (s : ByteArray) : Ce := cV (.string s)
def cY (n : UInt8) : Ce := cV (.int .u8 (n.toNat : Int))

def oC (c : Ce) (v : Value) : As := ⟨fun F w => c.ow F w v, c.loc, c.lt, c.up⟩

def zipC : List Ce → List Value → List As
  | c :: cs, v :: vs => oC c v :: zipC cs vs
  | _, _ => []

theorem zipC_append : ∀ {cs ds : List Ce} {vs us : List Value}, cs.length = vs.length → zipC (cs ++ ds) (vs ++ us) = zipC cs vs ++ zipC ds us
  | [], _, [], _, _ => rfl
  | [], _, _ :: _, _, h => by simp at h
  | _ :: _, _, [], _, h => by simp at h
  | c :: cs, ds, v :: vs, us, h => by
    simp only [List.cons_append, zipC, List.cons.injEq, true_and]
    exact zipC_append (by simpa using h)

def rdAll (S : Bs) (w : World) : List Ce → List Value → Prop
  | [], vs => vs = []
  | c :: cs, vs => ∃ v r, vs = v :: r ∧ c.rd S w v ∧ rdAll S w cs r

theorem rdAll_mono {S S' : Bs} {w w' : World} (h : ∀ b, S b → S' b) (hl : Lc S w w') : ∀ (cs : List Ce) (vs : List Value), rdAll S w cs vs → rdAll S' w' cs vs
  | [], _, hk => hk
  | c :: cs, _, ⟨v, r, e, h1, h2⟩ => ⟨v, r, e, c.mono h hl h1, rdAll_mono h hl cs r h2⟩

theorem rdAll_len {S : Bs} {w : World} : ∀ {cs : List Ce} {vs : List Value}, rdAll S w cs vs → vs.length = cs.length
  | [], _, h => by rw [h]; rfl
  | _ :: _, _, ⟨v, r, e, _, h2⟩ => by rw [e, List.length_cons, rdAll_len h2, List.length_cons]

theorem rdAll_append {S : Bs} {w : World} : ∀ {cs ds : List Ce} {vs us : List Value}, rdAll S w cs vs → rdAll S w ds us → rdAll S w (cs ++ ds) (vs ++ us)
  | [], _, _, _, h, h' => by have : _ = [] := h; subst this; exact h'
  | c :: cs, ds, _, us, ⟨v, r, e, h1, h2⟩, h' => by subst e; exact ⟨v, r ++ us, rfl, h1, rdAll_append h2 h'⟩

theorem rdAll_split {S : Bs} {w : World} : ∀ {cs ds : List Ce} {vs : List Value}, rdAll S w (cs ++ ds) vs → rdAll S w cs (vs.take cs.length) ∧ rdAll S w ds (vs.drop cs.length)
  | [], _, vs, h => ⟨by simp [rdAll], by simpa using h⟩
  | c :: cs, ds, vs, ⟨v, r, e, h1, h2⟩ => by
    subst e
    obtain ⟨h3, h4⟩ := rdAll_split h2
    exact ⟨⟨v, r.take cs.length, by simp, h1, h3⟩, by simpa using h4⟩

theorem rdAll_get {S : Bs} {w : World} : ∀ {cs : List Ce} {vs : List Value}, rdAll S w cs vs → ∀ {j : Nat} {c : Ce}, cs[j]? = some c → ∃ v, vs[j]? = some v ∧ c.rd S w v
  | [], _, _, j, c, hj => by simp at hj
  | c :: cs, _, ⟨v, r, e, h1, h2⟩, 0, c', hj => by
    simp at hj; subst hj; subst e; exact ⟨v, rfl, h1⟩
  | c :: cs, _, ⟨v, r, e, h1, h2⟩, j + 1, c', hj => by
    subst e; exact rdAll_get h2 (by simpa using hj)

theorem zipC_seen {w : World} : ∀ {cs : List Ce} {vs : List Value} {F : Bs}, cs.length = vs.length → Sep (zipC cs vs) F w → rdAll F w cs vs
  | [], [], _, _, _ => rfl
  | [], _ :: _, _, h, _ => by simp at h
  | _ :: _, [], _, h, _ => by simp at h
  | c :: cs, v :: vs, F, hl, ⟨_, F1, F2, h1, h2, _, h4, h5⟩ =>
    ⟨v, vs, rfl, c.mono h4 (Lc.refl _ _) (c.seen h1), rdAll_mono h5 (Lc.refl _ _) _ _ (zipC_seen (by simpa using hl) h2)⟩

/-- Cells that may be written. -/
def Wr (hd : Nat × Nat) (n : Nat) : Prop := ∀ j, j < n → ¬ (hd.1 ≤ j ∧ j < hd.2)
theorem wr0 (n : Nat) : Wr (0, 0) n := fun j _ h => by simp at h
/-- A row that is owned: n elements of k cells, the cells xs. -/
def oRow (k : Nat) (v : Value) (n : Nat) (xs : List Value) : As where
  ok := fun F w => (∀ b, F b → b.1 < w.heap.size) ∧ xs.length = n * k ∧ ((v = .slice none 0 0 ∧ n = 0) ∨ ∃ b off cap cur e hd, v = .slice (some ⟨b, off, none⟩) n cap ∧ (∀ j, j < cap * k → F (b, off + j)) ∧ (w.heap[b]? = some (.cells cur e hd) ∧ Wr hd cur.size) ∧ n ≤ cap ∧ cap ≤ maxLen ∧ off + cap * k ≤ cur.size ∧ (cur.toList.drop off).take (n * k) = xs)
  loc := fun h ⟨h0, h1, h2⟩ => ⟨lt_loc h h0, h1, h2.imp id fun ⟨b, off, cap, cur, e, hd, e1, hb, hg, hn, hc, hs, hx⟩ => by
    obtain ⟨cur', hg', hs', he⟩ := h.cells hg.1
    refine ⟨b, off, cap, cur', e, hd, e1, hb, ⟨hg', by rw [hs']; exact hg.2⟩, hn, hc, by omega, ?_⟩
    rw [← hx]
    exact take_same fun j hj => he _ (hb j (Nat.lt_of_lt_of_le hj (Nat.mul_le_mul_right _ hn)))⟩
  lt := fun ⟨h0, _⟩ hb => h0 _ hb
  up := fun hs hl ⟨_, h1, h2⟩ => ⟨hl, h1, h2.imp id fun ⟨b, off, cap, cur, e, hd, e1, hb, r⟩ => ⟨b, off, cap, cur, e, hd, e1, fun j hj => hs _ (hb j hj), r⟩⟩

def oBox (b : Nat) (cs : Array Value) (e : TypeId) : As where
  ok := fun F w => (∀ b, F b → b.1 < w.heap.size) ∧ (∀ j, j < cs.size → F (b, j)) ∧ w.heap[b]? = some (.cells cs e (0, 0))
  loc := fun h ⟨h0, h1, h2⟩ => ⟨lt_loc h h0, h1, by
    obtain ⟨cur', hg', hs', he⟩ := h.cells h2
    have : cur' = cs := Array.ext_getElem? fun i => by
      by_cases hi : i < cs.size
      · exact he i (h1 i hi)
      · rw [Array.getElem?_eq_none (by omega), Array.getElem?_eq_none (by omega)]
    rw [hg', this]⟩
  lt := fun ⟨h0, _⟩ hb => h0 _ hb
  up := fun hs hl ⟨_, h1, h2⟩ => ⟨hl, fun j hj => hs _ (h1 j hj), h2⟩

theorem row_at {k : Nat} {w : World} {n : Nat} {xs : List Value} {cur : Array Value} {e : TypeId} {hd : Nat × Nat} {b off : Nat} (hg : w.heap[b]? = some (.cells cur e hd)) (htk : (cur.toList.drop off).take (n * k) = xs) {j : Nat} {u : Value} (hj : xs[j]? = some u) : w.cell? ⟨b, off + j, none⟩ = some u := by
  rw [← htk, List.getElem?_take] at hj
  split at hj
  · rw [List.getElem?_drop, Array.getElem?_toList] at hj
    rw [cell_of hg]; exact hj
  · cases hj

/-- A slice of elements of k cells. -/
def cSl (k : Nat) {T : Type} (f : T → List Ce) (L : List T) : Ce where
  rd := fun S w v => ∃ a cap, v = .slice a L.length cap ∧ L.length ≤ cap ∧ cap ≤ maxLen ∧ (L ≠ [] → ∃ b off xs, a = some ⟨b, off, none⟩ ∧ (∀ j, j < L.length * k → S (b, off + j)) ∧ xs.length = L.length * k ∧ (∀ j u, xs[j]? = some u → w.cell? ⟨b, off + j, none⟩ = some u) ∧ rdAll S w (L.flatMap f) xs)
  mono := fun {S S' w w' v} h hk ⟨a, cap, e, h1, h2, h3⟩ => ⟨a, cap, e, h1, h2, fun hl => by
    obtain ⟨b, off, xs, ea, hb, hx, hc, he⟩ := h3 hl
    exact ⟨b, off, xs, ea, fun j hj => h _ (hb j hj), hx, fun j u hj => hk.cell (hb j (by rw [← hx]; exact (List.getElem?_eq_some_iff.1 hj).1)) (hc j u hj), rdAll_mono h hk _ _ he⟩⟩
  ow := fun F w v => ∃ xs : List Value, (L.flatMap f).length = xs.length ∧ Sep (oRow k v L.length xs :: zipC (L.flatMap f) xs) F w
  loc := fun h ⟨xs, h1, h2⟩ => ⟨xs, h1, h2.loc h⟩
  lt := fun ⟨_, _, h2⟩ hb => h2.lt _ hb
  up := fun hs hl ⟨xs, h1, h2⟩ => ⟨xs, h1, h2.up hs hl⟩
  seen := fun {F w v} ⟨xs, h1, h2⟩ => by
    obtain ⟨h0, F1, F2, ⟨_, hx, hr⟩, h4, _, h6, h7⟩ := h2
    have h8 := rdAll_mono h7 (Lc.refl _ _) _ _ (zipC_seen h1 h4)
    rcases hr with ⟨rfl, hn⟩ | ⟨b, off, cap, cur, e, hd, rfl, hb, hg, hnc, hcm, hsz, htk⟩
    · exact ⟨none, 0, by rw [hn], by omega, by simp [maxLen], fun hne => absurd (List.eq_nil_of_length_eq_zero hn) hne⟩
    · exact ⟨_, cap, rfl, hnc, hcm, fun _ => ⟨b, off, xs, rfl, fun j hj => h6 _ (hb j (Nat.lt_of_lt_of_le hj (Nat.mul_le_mul_right _ hnc))), hx, fun j u hj => row_at hg.1 htk hj, h8⟩⟩
  one := fun ⟨_, _, e, _⟩ => by rw [e]; rfl

/-- Something seen in what is owned. -/
structure Vi where
  ok : Bs → World → Prop
  loc : ∀ {F : Bs} {w w' : World}, Lc F w w' → ok F w → ok F w'
  up : ∀ {F F' : Bs} {w : World}, (∀ b, F b → F' b) → ok F w → ok F' w

/-- It reads so. -/
def vR (v : Value) (c : Ce) : Vi := ⟨fun F w => c.rd F w v, fun h hk => c.mono (fun _ hb => hb) h hk, fun h hk => c.mono h (Lc.refl _ _) hk⟩
/-- It stands there. -/
def vC (a : Addr) (v : Value) : Vi := ⟨fun F w => F (a.block, a.off) ∧ a.spot = none ∧ w.cell? a = some v, fun h hk => ⟨hk.1, hk.2.1, by obtain ⟨b, o, s⟩ := a; obtain ⟨h1, rfl, h3⟩ := hk; exact h.cell h1 h3⟩, fun h hk => ⟨h _ hk.1, hk.2⟩⟩

/-- Things seen in what is owned. -/
def oV (o : As) (l : List Vi) : As where
  ok := fun F w => o.ok F w ∧ ∀ r ∈ l, r.ok F w
  loc := fun h ⟨h1, h2⟩ => ⟨o.loc h h1, fun r hr => r.loc h (h2 r hr)⟩
  lt := fun ⟨h1, _⟩ hb => o.lt h1 hb
  up := fun hs hl ⟨h1, h2⟩ => ⟨o.up hs hl h1, fun r hr => r.up hs (h2 r hr)⟩

/-- A reading. -/
structure Rd where
  ok : Bs → World → Prop
  mono : ∀ {S S' : Bs} {w w' : World}, (∀ b, S b → S' b) → Lc S w w' → ok S w → ok S' w'

def rV (v : Value) (c : Ce) : Rd := ⟨fun S w => c.rd S w v, c.mono⟩
def rX (vs : List Value) (cs : List Ce) : Rd := ⟨fun S w => rdAll S w cs vs, fun h hl hk => rdAll_mono h hl _ _ hk⟩

/-- Where a call began, the cells that are lent to it, the cells that it may read. -/
structure Base where
  w : World
  X : Bs
  S : Bs

/-- The state of a call in progress: what it owns, what it may read. -/
structure St (w0 : Base) (m : List As) (rs : List Rd) (w : World) : Prop where
  relx : RelX w0.X w0.w w
  base : ∀ b, w0.S b → b.1 < w0.w.heap.size ∧ ¬ w0.X b
  ex : ∃ F : Bs, Sep m F w ∧ (∀ b, F b → w0.w.heap.size ≤ b.1 ∨ w0.X b) ∧ ∀ r ∈ rs, r.ok (fun b => (w0.S b ∨ w0.X b ∨ w0.w.heap.size ≤ b.1) ∧ b.1 < w.heap.size ∧ ¬ F b) w

/-- What a call gives: it has changed no old block but X; what it gives lies in X or in new memory. -/
structure Gives (X S : Bs) (w : World) (m : List As) (rs : List Rd) (w' : World) : Prop where
  relx : RelX X w w'
  ex : ∃ F : Bs, Sep m F w' ∧ (∀ b, F b → w.heap.size ≤ b.1 ∨ X b) ∧ ∀ r ∈ rs, r.ok (fun b => (S b ∨ X b ∨ w.heap.size ≤ b.1) ∧ b.1 < w'.heap.size ∧ ¬ F b) w'

section
variable {w0 : Base} {w w' : World} {m l l' : List As} {rs rs' : List Rd} {a a' : As}

theorem St.enter {X S : Bs} (hL : Sep m X w) (hS : ∀ b, S b → b.1 < w.heap.size ∧ ¬ X b) : St ⟨w, X, S⟩ m [] w :=
  ⟨RelX.refl _ _, hS, X, hL, fun _ h => .inr h, (fun _ h => by cases h)⟩

/-- A reading that was handed in. -/
theorem St.addE {X S : Bs} (h : St ⟨w, X, S⟩ m rs w) {r : Rd} (hr : r.ok S w) : St ⟨w, X, S⟩ m (r :: rs) w := by
  obtain ⟨h1, hb, F, h2, h3, h4⟩ := h
  refine ⟨h1, hb, F, h2, h3, fun r' hr' => ?_⟩
  rcases List.mem_cons.1 hr' with rfl | hr'
  · refine r'.mono (fun b hb' => ⟨.inl hb', (hb b hb').1, fun hf => ?_⟩) (Lc.refl _ _) hr
    have h5 := hb b hb'
    rcases h3 b hf with h6 | h6
    · have : b.1 < w.heap.size := h5.1
      have : w.heap.size ≤ b.1 := h6
      omega
    · exact h5.2 h6
  · exact h4 r' hr'

theorem St.gives (h : St w0 m rs w) : Gives w0.X w0.S w0.w m rs w := ⟨h.relx, h.ex⟩

theorem Gives.fewer {X S : Bs} (h : Gives X S w m rs w') (hs : ∀ r ∈ rs', r ∈ rs) : Gives X S w m rs' w' := by
  obtain ⟨h1, F, h2, h3, h4⟩ := h
  exact ⟨h1, F, h2, h3, fun r hr => h4 r (hs r hr)⟩

/-- The first things owned are looked at otherwise. -/
theorem St.iso (h : St w0 (l ++ m) rs w) (hi : ∀ F, Sep l F w → Sep l' F w) : St w0 (l' ++ m) rs w := by
  obtain ⟨h1, hb, F, h2, h3, h4⟩ := h
  obtain ⟨F1, F2, g1, g2, g3, g4, g5⟩ := h2.split
  have g6 := (Sep.join (hi F1 g1) g2 g3).up (F' := F) (fun b hb => by
    rcases hb with hb | hb
    · exact g4 b hb
    · exact g5 b hb) h2.lt
  exact ⟨h1, hb, F, g6, h3, h4⟩

theorem St.perm {m' : List As} (h : St w0 m rs w) (hp : m.Perm m') : St w0 m' rs w := by
  obtain ⟨h1, hb, F, h2, h3, h4⟩ := h
  exact ⟨h1, hb, F, h2.perm hp, h3, h4⟩

/-- The first things owned are written (or have moved to new memory). -/
theorem St.upd (h : St w0 (l ++ m) rs w) (hi : ∀ F, Sep l F w → ∃ F', Sep l' F' w' ∧ RelX F w w' ∧ ∀ b, F' b → F b ∨ w.heap.size ≤ b.1) : St w0 (l' ++ m) rs w' := by
  obtain ⟨h1, hb, F, h2, h3, h4⟩ := h
  obtain ⟨F1, F2, g1, g2, g3, g4, g5⟩ := h2.split
  obtain ⟨F', k1, k2, k3⟩ := hi F1 g1
  have g2' : Sep m F2 w' := g2.loc (k2.lc fun b hb h' => g3 b h' hb)
  have hd : ∀ b, F' b → ¬ F2 b := fun b hb h' => by
    rcases k3 b hb with h'' | h''
    · exact g3 b h'' h'
    · have := g2.lt b h'; omega
  refine ⟨h1.step k2 fun b hb => h3 b (g4 b hb), hb, _, Sep.join k1 g2' hd, fun b hb' => ?_, fun r hr => ?_⟩
  · rcases hb' with hb' | hb'
    · rcases k3 b hb' with h' | h'
      · exact h3 b (g4 b h')
      · have := h1.size; exact .inl (by omega)
    · exact h3 b (g5 b hb')
  · refine r.mono (fun b hb' => ⟨hb'.1, Nat.lt_of_lt_of_le hb'.2.1 k2.size, fun h' => ?_⟩) (k2.lc fun b hb' e => hb'.2.2 (g4 b e)) (h4 r hr)
    rcases h' with h' | h'
    · rcases k3 b h' with h'' | h''
      · exact hb'.2.2 (g4 b h'')
      · have := hb'.2.1; omega
    · exact hb'.2.2 (g5 b h')

theorem St.call (h : St w0 m rs w) (hr : Rel w w') : St w0 m rs w' :=
  St.upd (l := []) (l' := []) h fun F hF => ⟨F, fun b hb => Nat.lt_of_lt_of_le (hF b hb) hr.size, hr.x F, fun _ hb => .inl hb⟩

/-- A callee, to which the first things owned were lent, has come back. -/
theorem St.got {rs1 : List Rd} (h : St w0 (l ++ m) rs w) (hX : ∀ F1 F2 : Bs, Sep l F1 w → Sep m F2 w → (∀ b, F1 b → ¬ F2 b) → Gives F1 (fun b => (w0.S b ∨ w0.X b ∨ w0.w.heap.size ≤ b.1) ∧ b.1 < w.heap.size ∧ ¬ (F1 b ∨ F2 b)) w l' rs1 w') : St w0 (l' ++ m) (rs1 ++ rs) w' := by
  obtain ⟨h1, hb, F, h2, h3, h4⟩ := h
  obtain ⟨F1, F2, g1, g2, g3, g4, g5⟩ := h2.split
  obtain ⟨k2, F', k1, k3, k4⟩ := hX F1 F2 g1 g2 g3
  have g2' : Sep m F2 w' := g2.loc (k2.lc fun b hb h' => g3 b h' hb)
  have hd : ∀ b, F' b → ¬ F2 b := fun b hb h' => by
    rcases k3 b hb with h'' | h''
    · have := g2.lt b h'; omega
    · exact g3 b h'' h'
  refine ⟨h1.step k2 fun b hb => h3 b (g4 b hb), hb, _, Sep.join k1 g2' hd, fun b hb' => ?_, fun r hr => ?_⟩
  · rcases hb' with hb' | hb'
    · rcases k3 b hb' with h' | h'
      · have := h1.size; exact .inl (by omega)
      · exact h3 b (g4 b h')
    · exact h3 b (g5 b hb')
  · rcases List.mem_append.1 hr with hr | hr
    · refine r.mono (fun b hb' => ⟨?_, hb'.2.1, fun h' => ?_⟩) (Lc.refl _ _) (k4 r hr)
      · rcases hb'.1 with h' | h' | h'
        · exact h'.1
        · exact .inr ((h3 b (g4 b h')).elim .inr .inl)
        · have := h1.size; exact .inr (.inr (by omega))
      · rcases h' with h' | h'
        · exact hb'.2.2 h'
        · rcases hb'.1 with h'' | h'' | h''
          · exact h''.2.2 (.inr h')
          · exact g3 b h'' h'
          · have := g2.lt b h'; omega
    · refine r.mono (fun b hb' => ⟨hb'.1, Nat.lt_of_lt_of_le hb'.2.1 k2.size, fun h' => ?_⟩) (k2.lc fun b hb' e => hb'.2.2 (g4 b e)) (h4 r hr)
      rcases h' with h' | h'
      · rcases k3 b h' with h'' | h''
        · have := hb'.2.1; omega
        · exact hb'.2.2 (g4 b h'')
      · exact hb'.2.2 (g5 b h')

/-- What is owned is only read from now on. -/
theorem St.fix {r : Rd} (h : St w0 (l ++ m) rs w) (hr : ∀ F, Sep l F w → r.ok F w) : St w0 m (r :: rs) w := by
  obtain ⟨h1, hb, F, h2, h3, h4⟩ := h
  obtain ⟨F1, F2, g1, g2, g3, g4, g5⟩ := h2.split
  refine ⟨h1, hb, F2, g2, fun b hb' => h3 b (g5 b hb'), fun r' hr' => ?_⟩
  rcases List.mem_cons.1 hr' with rfl | hr'
  · refine r'.mono (fun b hb' => ⟨?_, h2.lt b (g4 b hb'), g3 b hb'⟩) (Lc.refl _ _) (hr F1 g1)
    exact .inr ((h3 b (g4 b hb')).elim .inr .inl)
  · exact r'.mono (fun b hb' => ⟨hb'.1, hb'.2.1, fun h' => hb'.2.2 (g5 b h')⟩) (Lc.refl _ _) (h4 r' hr')

end
end Go.Proofs.YtjbonmmmcnpjiaaGreatDoor
