/- The verification layer, part B: data in memory; what a call owns; steps of such a state. No condition. -/
import Derived.Test.YthnnhoabdhhkaaaVlA
namespace Go.Proofs.Ythnnhoabdhhkaaa
open Go.RowKit

/-- Nothing that was there has changed. -/
def Rel (w w' : World) : Prop := Below w.heap.size w w'

theorem Rel.refl (w : World) : Rel w w := Below.refl _ _
theorem Rel.size {w w' : World} (h : Rel w w') : w.heap.size ≤ w'.heap.size := Below.size h
theorem Rel.trans {a b c : World} (h : Rel a b) (k : Rel b c) : Rel a c := Below.trans h (Below.mono k h.size)
theorem Rel.block {w w' : World} (h : Rel w w') {b : Nat} (hb : b < w.heap.size) : w'.heap[b]? = w.heap[b]? := Below.block h b hb
theorem Rel.cell {w w' : World} (h : Rel w w') {a : Addr} (hb : a.block < w.heap.size) : w'.cell? a = w.cell? a := Below.cell h hb
theorem Rel.alloc (w : World) (o : Obj) : Rel w (w.alloc o) := (Below.refl _ _).alloc (Nat.le_refl _) o
theorem Rel.drew {w w' : World} (h : Rel w w') : Rel w w'.drew := Below.drew h

/-- The same but for the blocks X, which are lent to the call. -/
structure RelX (X : Nat → Prop) (w w' : World) : Prop where
  os : w'.os = w.os
  tape : w'.tape = w.tape
  output : w'.output = w.output
  size : w.heap.size ≤ w'.heap.size
  block : ∀ k, k < w.heap.size → ¬ X k → w'.heap[k]? = w.heap[k]?

theorem Rel.x {w w' : World} (h : Rel w w') (X : Nat → Prop) : RelX X w w' := ⟨Below.os h, Below.tape h, Below.output h, h.size, fun _ hk _ => h.block hk⟩
theorem RelX.rel {w w' : World} (h : RelX (fun _ => False) w w') : Rel w w' := ⟨h.os, h.tape, h.output, h.size, fun k hk => h.block k hk (fun h => h)⟩
theorem RelX.trans {X : Nat → Prop} {a b c : World} (h : RelX X a b) (k : RelX X b c) : RelX X a c :=
  ⟨k.os.trans h.os, k.tape.trans h.tape, k.output.trans h.output, Nat.le_trans h.size k.size, fun i hi hx => (k.block i (Nat.lt_of_lt_of_le hi h.size) hx).trans (h.block i hi hx)⟩
theorem RelX.mono {X Y : Nat → Prop} {w w' : World} (h : RelX X w w') (hs : ∀ b, X b → Y b) : RelX Y w w' := ⟨h.os, h.tape, h.output, h.size, fun k hk hx => h.block k hk fun hy => hx (hs k hy)⟩
theorem RelX.ofGrown {w w' : World} {q : Option Nat} (h : w.grownBy w' q) : RelX (fun b => q = some b) w w' := ⟨h.os, h.tape, h.output, h.size, fun k hk hx => h.block k hk fun e => hx e.symm⟩

/-- Where a call began, and the blocks that are lent to it. -/
structure Base where
  w : World
  X : Nat → Prop
def b0 (w : World) : Base := ⟨w, fun _ => False⟩

/-- A datum: how it lies in cells; the blocks that it uses lie in 'S'. -/
structure D where
  rd : (Nat → Prop) → World → List Value → Prop
  mono : ∀ {S S' : Nat → Prop} {w w' : World} {cs : List Value}, (∀ b, S b → S' b ∧ w'.heap[b]? = w.heap[b]?) → rd S w cs → rd S' w' cs

def dInt (n : Int) : D := ⟨fun _ _ cs => cs = [.int .i64 n], fun _ h => h⟩
def dBool (b : Bool) : D := ⟨fun _ _ cs => cs = [.bool b], fun _ h => h⟩
def dStr (s : ByteArray) : D := ⟨fun _ _ cs => cs = [.string s], fun _ h => h⟩
/-- One known cell. -/
def dVal (v : Value) : D := ⟨fun _ _ cs => cs = [v], fun _ h => h⟩

def rdL (S : Nat → Prop) (w : World) : List D → List Value → Prop
  | [], cs => cs = []
  | d :: ds, cs => ∃ c1 c2, cs = c1 ++ c2 ∧ d.rd S w c1 ∧ rdL S w ds c2

theorem rdL_mono {S S' : Nat → Prop} {w w' : World} (h : ∀ b, S b → S' b ∧ w'.heap[b]? = w.heap[b]?) : ∀ (ds : List D) (cs : List Value), rdL S w ds cs → rdL S' w' ds cs
  | [], _, hc => hc
  | d :: ds, _, ⟨c1, c2, e, h1, h2⟩ => ⟨c1, c2, e, d.mono h h1, rdL_mono h ds c2 h2⟩

/-- A struct: its fields' cells, one behind the other. -/
def dSt (l : List D) : D := ⟨fun S w cs => rdL S w l cs, fun h => rdL_mono h l _⟩

def rdE (k : Nat) (S : Nat → Prop) (w : World) : List D → List Value → Prop
  | [], cs => cs = []
  | d :: ds, cs => ∃ c1 c2, cs = c1 ++ c2 ∧ c1.length = k ∧ d.rd S w c1 ∧ rdE k S w ds c2

theorem rdE_mono {k : Nat} {S S' : Nat → Prop} {w w' : World} (h : ∀ b, S b → S' b ∧ w'.heap[b]? = w.heap[b]?) : ∀ (ds : List D) (cs : List Value), rdE k S w ds cs → rdE k S' w' ds cs
  | [], _, hc => hc
  | d :: ds, _, ⟨c1, c2, e, hl, h1, h2⟩ => ⟨c1, c2, e, hl, d.mono h h1, rdE_mono h ds c2 h2⟩

theorem rdE_length {k : Nat} {S : Nat → Prop} {w : World} : ∀ {ds : List D} {cs : List Value}, rdE k S w ds cs → cs.length = ds.length * k
  | [], _, hc => by rw [hc]; simp
  | d :: ds, _, ⟨c1, c2, e, hl, h1, h2⟩ => by rw [e, List.length_append, hl, rdE_length h2, List.length_cons, Nat.add_mul]; omega

theorem rdE_get {k : Nat} {S : Nat → Prop} {w : World} : ∀ {ds : List D} {cs : List Value}, rdE k S w ds cs → ∀ i d, ds[i]? = some d → d.rd S w ((cs.drop (i * k)).take k) ∧ ((cs.drop (i * k)).take k).length = k
  | [], _, _, i, d, h => by simp at h
  | d0 :: ds, _, ⟨c1, c2, e, hl, h1, h2⟩, 0, d, h => by
    simp at h; subst h; subst e
    simp [← hl, h1]
  | d0 :: ds, _, ⟨c1, c2, e, hl, h1, h2⟩, i + 1, d, h => by
    have ih := rdE_get h2 i d (by simpa using h)
    subst e
    have e2 : (c1 ++ c2).drop ((i + 1) * k) = c2.drop (i * k) := by
      rw [List.drop_append, hl, List.drop_eq_nil_of_le (by rw [hl, Nat.add_mul]; omega), List.nil_append]
      congr 1
      rw [Nat.add_mul]; omega
    rw [e2]
    exact ih

theorem rdE_append {k : Nat} {S : Nat → Prop} {w : World} : ∀ {ds es : List D} {cs cs' : List Value}, rdE k S w ds cs → rdE k S w es cs' → rdE k S w (ds ++ es) (cs ++ cs')
  | [], _, _, _, h, h' => by have : _ = [] := h; subst this; exact h'
  | d :: ds, es, _, cs', ⟨c1, c2, e, hl, h1, h2⟩, h' => by
    subst e
    exact ⟨c1, c2 ++ cs', by simp, hl, h1, rdE_append h2 h'⟩

theorem rdE_drop {k : Nat} {S : Nat → Prop} {w : World} : ∀ (i : Nat) {ds : List D} {cs : List Value}, rdE k S w ds cs → rdE k S w (ds.drop i) (cs.drop (i * k))
  | 0, _, _, h => by simpa using h
  | i + 1, [], _, h => by have : _ = [] := h; subst this; simp [rdE]
  | i + 1, d :: ds, _, ⟨c1, c2, e, hl, h1, h2⟩ => by
    subst e
    have e2 : (c1 ++ c2).drop ((i + 1) * k) = c2.drop (i * k) := by
      rw [List.drop_append, hl, List.drop_eq_nil_of_le (by rw [hl, Nat.add_mul]; omega), List.nil_append]
      congr 1
      rw [Nat.add_mul]; omega
    rw [e2]
    exact rdE_drop i h2

theorem rdE_take {k : Nat} {S : Nat → Prop} {w : World} : ∀ (i : Nat) {ds : List D} {cs : List Value}, rdE k S w ds cs → rdE k S w (ds.take i) (cs.take (i * k))
  | 0, _, _, h => by simp [rdE]
  | i + 1, [], _, h => by have : _ = [] := h; subst this; simp [rdE]
  | i + 1, d :: ds, _, ⟨c1, c2, e, hl, h1, h2⟩ => by
    subst e
    refine ⟨c1, c2.take (i * k), ?_, hl, h1, rdE_take i h2⟩
    rw [List.take_append, hl, List.take_of_length_le (by rw [hl, Nat.add_mul]; omega)]
    congr 2
    rw [Nat.add_mul]; omega

/-- Where cell j of a slice lies. -/
def eaddr : Value → Nat → Addr
  | .slice (some a) _ _, j => ⟨a.block, a.off + j, none⟩
  | _, _ => ⟨0, 0, none⟩

/-- A slice that reads as a list; k cells an element. -/
def dSl (k : Nat) (l : List D) : D :=
  ⟨fun S w cs => ∃ a cap, cs = [.slice a l.length cap] ∧ l.length ≤ cap ∧ cap ≤ maxLen ∧ (l ≠ [] → ∃ b off es, a = some ⟨b, off, none⟩ ∧ S b ∧ (∀ j v, es[j]? = some v → w.cell? ⟨b, off + j, none⟩ = some v) ∧ rdE k S w l es),
   fun {S S' w w' cs} h ⟨a, cap, e, h1, h2, h3⟩ => ⟨a, cap, e, h1, h2, fun hl => by
     obtain ⟨b, off, es, ea, hb, hc, he⟩ := h3 hl
     exact ⟨b, off, es, ea, (h b hb).1, fun j v hj => (World.cell?_of_block (w := w) (w' := w') (a := ⟨b, off + j, none⟩) (h b hb).2).trans (hc j v hj), rdE_mono h l es he⟩⟩⟩

/-- An argument. -/
def Arg (w : World) (cs : List Value) (d : D) : Prop := d.rd (fun b => b < w.heap.size) w cs
/-- A result in new memory. -/
def Res (w w' : World) (cs : List Value) (d : D) : Prop := d.rd (fun b => w.heap.size ≤ b ∧ b < w'.heap.size) w' cs

theorem Arg.rel {w w' : World} {cs : List Value} {d : D} (h : Arg w cs d) (hr : Rel w w') : Arg w' cs d := d.mono (fun _ hb => ⟨Nat.lt_of_lt_of_le hb hr.size, hr.block hb⟩) h
theorem Res.arg {w w' : World} {cs : List Value} {d : D} (h : Res w w' cs d) : Arg w' cs d := d.mono (fun _ hb => ⟨hb.2, rfl⟩) h
theorem Res.rel {w w' w'' : World} {cs : List Value} {d : D} (h : Res w w' cs d) (hr : Rel w' w'') : Res w w'' cs d := d.mono (fun _ hb => ⟨⟨hb.1, Nat.lt_of_lt_of_le hb.2 hr.size⟩, hr.block hb.2⟩) h
theorem Res.since {w0 w w' : World} {cs : List Value} {d : D} (h : Res w w' cs d) (hr : w0.heap.size ≤ w.heap.size) : Res w0 w' cs d := d.mono (fun _ hb => ⟨⟨Nat.le_trans hr hb.1, hb.2⟩, rfl⟩) h

/-- The value that reads as a slice. -/
theorem Sl.form {S : Nat → Prop} {w : World} {v : Value} {k : Nat} {l : List D} (h : (dSl k l).rd S w [v]) : ∃ a cap, v = .slice a l.length cap ∧ l.length ≤ cap ∧ cap ≤ maxLen ∧ (l ≠ [] → ∃ b off, a = some ⟨b, off, none⟩) := by
  obtain ⟨a, cap, e, h1, h2, h3⟩ := h
  refine ⟨a, cap, (List.cons.inj e).1, h1, h2, fun hl => ?_⟩
  obtain ⟨b, off, es, ea, _⟩ := h3 hl
  exact ⟨b, off, ea⟩

/-- An element's cells. -/
theorem Sl.cells {S : Nat → Prop} {w : World} {v : Value} {k : Nat} {l : List D} (h : (dSl k l).rd S w [v]) {i : Nat} {d : D} (hi : l[i]? = some d) :
    ∃ cs, cs.length = k ∧ d.rd S w cs ∧ ∀ (j : Nat) u, cs[j]? = some u → w.cell? (eaddr v (i * k + j)) = some u := by
  obtain ⟨a, cap, e, h1, h2, h3⟩ := h
  have hl : l ≠ [] := by intro e; subst e; simp at hi
  obtain ⟨b, off, es, ea, hb, hc, he⟩ := h3 hl
  have h4 := rdE_get he i d hi
  refine ⟨_, h4.2, h4.1, fun j u hj => ?_⟩
  have hv : v = .slice a l.length cap := (List.cons.inj e).1
  subst hv; subst ea
  rw [List.getElem?_take] at hj
  split at hj
  · rw [List.getElem?_drop] at hj
    exact hc _ _ hj
  · cases hj

/-- A resource that a call owns: the blocks 'fp' belong to it. -/
structure Own where
  fp : Nat → Prop
  ok : World → Prop
  loc : ∀ {w w' : World}, (∀ b, fp b → w'.heap[b]? = w.heap[b]?) → ok w → ok w'
  lt : ∀ {w : World} {b : Nat}, fp b → ok w → b < w.heap.size

def oBox (b : Nat) (cs : Array Value) (e : TypeId) : Own :=
  ⟨fun c => some b = some c, fun w => w.heap[b]? = some (.cells cs e (0, 0)), fun h hk => (h b rfl).trans hk, fun {w c} hc hk => by
    obtain rfl : b = c := Option.some.inj hc
    exact (Array.getElem?_eq_some_iff.1 hk).1⟩

def oSl (v : Value) (e size n : Nat) (xs : List Value) : Own :=
  ⟨fun c => v.ownBlock = some c, fun w => w.ownsRow 0 e size v n xs, fun {w w'} h hk => by
    refine ⟨hk.1, ?_⟩
    rcases hk.2 with hn | ⟨g, cap, cur, rfl, hb, hgg, rest⟩
    · exact .inl hn
    · exact .inr ⟨g, cap, cur, rfl, hb, (h g rfl).trans hgg, rest⟩, fun {w b} hb hk => (World.ownsRow.lt hk b hb).2⟩

/-- No block in common. -/
def Apart (o o' : Own) : Prop := ∀ b, o.fp b → ¬ o'.fp b
theorem Apart.symm {o o' : Own} (h : Apart o o') : Apart o' o := fun b h1 h2 => h b h2 h1

/-- Several as one. -/
def oStar (l : List Own) : Own :=
  ⟨fun b => ∃ o ∈ l, o.fp b, fun w => (∀ o ∈ l, o.ok w) ∧ l.Pairwise Apart,
   fun h hk => ⟨fun o ho => o.loc (fun b hb => h b ⟨o, ho, hb⟩) (hk.1 o ho), hk.2⟩,
   fun ⟨o, ho, hb⟩ hk => o.lt hb (hk.1 o ho)⟩

/-- The state of a call in progress: what it owns, what it may read. -/
structure St (w0 : Base) (m : List Own) (rs : List (List Value × D)) (w : World) : Prop where
  relx : RelX w0.X w0.w w
  ok : ∀ o ∈ m, o.ok w ∧ ∀ b, o.fp b → w0.w.heap.size ≤ b ∨ w0.X b
  nd : m.Pairwise Apart
  rd : ∀ r ∈ rs, r.2.rd (fun b => b < w.heap.size ∧ ∀ o ∈ m, ¬ o.fp b) w r.1

section
variable {w0 : Base} {w w' : World} {m : List Own} {rs : List (List Value × D)} {o o' : Own}

theorem St.rel (h : St (b0 w) m rs w') : Rel w w' := RelX.rel h.relx

theorem St.init (w : World) : St (b0 w) [] [] w := ⟨(Rel.refl w).x _, (fun _ h => by cases h), List.Pairwise.nil, (fun _ h => by cases h)⟩

theorem St.addA (h : St w0 [] rs w) {cs : List Value} {d : D} (ha : Arg w cs d) : St w0 [] ((cs, d) :: rs) w :=
  ⟨h.relx, h.ok, h.nd, fun r hr => by
    rcases List.mem_cons.1 hr with rfl | hr
    · exact d.mono (fun _ hb => ⟨⟨hb, (fun _ ho => by cases ho)⟩, rfl⟩) ha
    · exact h.rd r hr⟩

theorem St.arg (h : St w0 m rs w) {cs : List Value} {d : D} (hr : (cs, d) ∈ rs) : Arg w cs d := d.mono (fun _ hb => ⟨hb.1, rfl⟩) (h.rd _ hr)
theorem St.see (h : St w0 m rs w) {cs : List Value} {d : D} (hr : (cs, d) ∈ rs) : d.rd (fun b => b < w.heap.size ∧ ∀ o ∈ m, ¬ o.fp b) w cs := h.rd _ hr

/-- Old blocks stay; a callee has worked in new memory alone. -/
theorem St.call (h : St w0 m rs w) (hr : Rel w w') : St w0 m rs w' :=
  ⟨h.relx.trans (hr.x _), fun o ho => ⟨o.loc (fun _ hb => hr.block (o.lt hb (h.ok o ho).1)) (h.ok o ho).1, (h.ok o ho).2⟩, h.nd,
   fun r hm => r.2.mono (fun _ hb => ⟨⟨Nat.lt_of_lt_of_le hb.1 hr.size, hb.2⟩, hr.block hb.1⟩) (h.rd r hm)⟩

theorem St.add (h : St w0 m rs w) {S : Nat → Prop} {cs : List Value} {d : D} (hd : d.rd S w cs) (hS : ∀ b, S b → b < w.heap.size ∧ ∀ o ∈ m, ¬ o.fp b) : St w0 m ((cs, d) :: rs) w :=
  ⟨h.relx, h.ok, h.nd, fun r hr => by
    rcases List.mem_cons.1 hr with rfl | hr
    · exact d.mono (fun b hb => ⟨hS b hb, rfl⟩) hd
    · exact h.rd r hr⟩

theorem St.more (h : St w0 m rs w) {cs : List Value} {d : D} (hd : d.rd (fun b => b < w.heap.size ∧ ∀ o ∈ m, ¬ o.fp b) w cs) : St w0 m ((cs, d) :: rs) w := h.add hd fun _ hb => hb

/-- A callee's result in new memory. -/
theorem St.res (h : St w0 m rs w) (hr : Rel w w') {cs : List Value} {d : D} (hd : Res w w' cs d) : St w0 m ((cs, d) :: rs) w' :=
  (h.call hr).add hd fun b hb => ⟨hb.2, fun o ho e => by have := o.lt e (h.ok o ho).1; omega⟩

/-- A callee's result in new memory, as something owned. -/
theorem St.own (h : St w0 m rs w) (hr : Rel w w') (ho : o.ok w') (hb : ∀ b, o.fp b → w.heap.size ≤ b) : St w0 (o :: m) rs w' := by
  have h' := h.call hr
  refine ⟨h'.relx, fun p hp => ?_, ?_, fun r hm => ?_⟩
  · rcases List.mem_cons.1 hp with rfl | hp
    · exact ⟨ho, fun b e => .inl (Nat.le_trans h.relx.size (hb b e))⟩
    · exact h'.ok p hp
  · refine List.pairwise_cons.2 ⟨fun p hp b e1 e2 => ?_, h.nd⟩
    have := hb b e1
    have := p.lt e2 (h.ok p hp).1
    omega
  · refine r.2.mono (fun b hb' => ⟨⟨Nat.lt_of_lt_of_le hb'.1 hr.size, fun p hp => ?_⟩, hr.block hb'.1⟩) (h.rd r hm)
    rcases List.mem_cons.1 hp with rfl | hp
    · intro e; have := hb b e; omega
    · exact hb'.2 p hp

theorem St.alloc (h : St w0 m rs w) (cs : Array Value) (e : TypeId) : St w0 (oBox w.heap.size cs e :: m) rs (w.alloc (.cells cs e)) :=
  h.own (Rel.alloc w _) (heap_alloc_new w _) fun b hb => by
    have : w.heap.size = b := Option.some.inj hb
    omega

theorem St.drop (h : St w0 (o :: m) rs w) : St w0 m rs w :=
  ⟨h.relx, fun p hp => h.ok p (List.mem_cons_of_mem _ hp), (List.pairwise_cons.1 h.nd).2,
   fun r hm => r.2.mono (fun _ hb => ⟨⟨hb.1, fun p hp => hb.2 p (List.mem_cons_of_mem _ hp)⟩, rfl⟩) (h.rd r hm)⟩

theorem St.dropAll (h : St w0 m rs w) : St w0 [] rs w :=
  ⟨h.relx, (fun _ hp => by cases hp), List.Pairwise.nil, fun r hm => r.2.mono (fun _ hb => ⟨⟨hb.1, (fun _ hp => by cases hp)⟩, rfl⟩) (h.rd r hm)⟩

theorem St.fewer (h : St w0 m rs w) {rs' : List (List Value × D)} (hs : ∀ r ∈ rs', r ∈ rs) : St w0 m rs' w := ⟨h.relx, h.ok, h.nd, fun r hr => h.rd r (hs r hr)⟩
theorem St.lessR {x : List Value × D} (h : St w0 m (x :: rs) w) : St w0 m rs w := h.fewer fun _ hr => List.mem_cons_of_mem _ hr

theorem St.top (h : St w0 (o :: m) rs w) : o.ok w := (h.ok o (List.mem_cons_self)).1

theorem St.perm {m' : List Own} (h : St w0 m rs w) (hp : m.Perm m') : St w0 m' rs w :=
  ⟨h.relx, fun o ho => h.ok o (hp.mem_iff.2 ho), (hp.pairwise_iff (fun h => h.symm)).1 h.nd, fun r hm => r.2.mono (fun _ hb => ⟨⟨hb.1, fun o ho => hb.2 o (hp.mem_iff.2 ho)⟩, rfl⟩) (h.rd r hm)⟩

theorem St.swap (h : St w0 (o :: o' :: m) rs w) : St w0 (o' :: o :: m) rs w := h.perm (List.Perm.swap _ _ _)
theorem St.roll {o1 o2 o3 : Own} (h : St w0 (o1 :: o2 :: o3 :: m) rs w) : St w0 (o3 :: o1 :: o2 :: m) rs w := h.perm (List.perm_middle (l₁ := [o1, o2]) (a := o3) (l₂ := m))

/-- The first thing owned is written (or has moved to new memory). -/
theorem St.updX (h : St w0 (o :: m) rs w) (hg : RelX o.fp w w') (ho : o'.ok w') (hb : ∀ b, o'.fp b → o.fp b ∨ w.heap.size ≤ b) : St w0 (o' :: m) rs w' := by
  obtain ⟨h1, h2⟩ := List.pairwise_cons.1 h.nd
  have htop := (h.ok o (List.mem_cons_self)).2
  have other : ∀ p ∈ m, ∀ b, p.fp b → w'.heap[b]? = w.heap[b]? := fun p hp b e =>
    hg.block b (p.lt e (h.ok p (List.mem_cons_of_mem _ hp)).1) fun e' => h1 p hp b e' e
  refine ⟨?_, fun p hp => ?_, ?_, fun r hm => ?_⟩
  · exact ⟨hg.os.trans h.relx.os, hg.tape.trans h.relx.tape, hg.output.trans h.relx.output, Nat.le_trans h.relx.size hg.size, fun k hk hx =>
      (hg.block k (Nat.lt_of_lt_of_le hk h.relx.size) fun e => by
        rcases htop k e with h' | h'
        · omega
        · exact hx h').trans (h.relx.block k hk hx)⟩
  · rcases List.mem_cons.1 hp with rfl | hp
    · refine ⟨ho, fun b e => ?_⟩
      rcases hb b e with e' | e'
      · exact htop b e'
      · have := h.relx.size; exact .inl (by omega)
    · have := h.ok p (List.mem_cons_of_mem _ hp)
      exact ⟨p.loc (other p hp) this.1, this.2⟩
  · refine List.pairwise_cons.2 ⟨fun p hp b e1 e2 => ?_, h2⟩
    rcases hb b e1 with e' | e'
    · exact h1 p hp b e' e2
    · have := p.lt e2 (h.ok p (List.mem_cons_of_mem _ hp)).1; omega
  · refine r.2.mono (fun b hb' => ⟨⟨Nat.lt_of_lt_of_le hb'.1 hg.size, fun p hp => ?_⟩, hg.block b hb'.1 fun e => hb'.2 o (List.mem_cons_self) e⟩) (h.rd r hm)
    rcases List.mem_cons.1 hp with rfl | hp
    · intro e
      rcases hb b e with e' | e'
      · exact hb'.2 o (List.mem_cons_self) e'
      · omega
    · exact hb'.2 p (List.mem_cons_of_mem _ hp)

theorem St.upd {q : Option Nat} (h : St w0 (o :: m) rs w) (hg : w.grownBy w' q) (ho : o'.ok w') (hb : ∀ b, o'.fp b → o.fp b ∨ w.heap.size ≤ b) (hq : o.fp = (fun b => q = some b) := by rfl) : St w0 (o' :: m) rs w' :=
  h.updX (hq ▸ RelX.ofGrown hg) ho hb

theorem St.drew (h : St w0 m rs w) : St w0 m rs w.drew := h.call ((Rel.refl w).drew)

/-- The thing in front is lent to a callee, which has changed it. -/
theorem St.lent (h : St w0 (o :: m) rs w) (hr : RelX o.fp w w') (ho : o'.ok w') (hb' : ∀ c, o'.fp c → o.fp c ∨ w.heap.size ≤ c) : St w0 (o' :: m) rs w' := h.updX hr ho hb'

/-- What a callee is lent, it sees as its own. -/
theorem St.initX (ho : o.ok w) : St ⟨w, o.fp⟩ [o] [] w :=
  ⟨(Rel.refl w).x _, (fun p hp => by
    obtain rfl : p = o := by simpa using hp
    exact ⟨ho, fun c hc => .inr hc⟩), List.pairwise_singleton _ _, (fun _ h => by cases h)⟩

/-- A reading that keeps clear of what is owned. -/
theorem St.addX (h : St w0 m rs w) {cs : List Value} {d : D} (hd : d.rd (fun b => b < w.heap.size ∧ ∀ o ∈ m, ¬ o.fp b) w cs) : St w0 m ((cs, d) :: rs) w := h.more hd

/-- Several as one, and back. -/
theorem St.join {l : List Own} (h : St w0 (l ++ m) rs w) : St w0 (oStar l :: m) rs w := by
  obtain ⟨h1, h2, h3⟩ := List.pairwise_append.1 h.nd
  refine ⟨h.relx, fun p hp => ?_, List.pairwise_cons.2 ⟨fun p hp b ⟨q, hq, hb⟩ e => h3 q hq p hp b hb e, h2⟩, fun r hm => r.2.mono (fun b hb => ⟨⟨hb.1, fun p hp => ?_⟩, rfl⟩) (h.rd r hm)⟩
  · rcases List.mem_cons.1 hp with rfl | hp
    · exact ⟨⟨fun q hq => (h.ok q (List.mem_append_left _ hq)).1, h1⟩, fun b ⟨q, hq, hb⟩ => (h.ok q (List.mem_append_left _ hq)).2 b hb⟩
    · exact h.ok p (List.mem_append_right _ hp)
  · rcases List.mem_cons.1 hp with rfl | hp
    · exact fun ⟨q, hq, e⟩ => hb.2 q (List.mem_append_left _ hq) e
    · exact hb.2 p (List.mem_append_right _ hp)

theorem St.split {l : List Own} (h : St w0 (oStar l :: m) rs w) : St w0 (l ++ m) rs w := by
  obtain ⟨h1, h2⟩ := List.pairwise_cons.1 h.nd
  have ht := h.ok _ (List.mem_cons_self)
  refine ⟨h.relx, fun p hp => ?_, List.pairwise_append.2 ⟨ht.1.2, h2, fun q hq p hp b e1 e2 => h1 p hp b ⟨q, hq, e1⟩ e2⟩, fun r hm => r.2.mono (fun b hb => ⟨⟨hb.1, fun p hp => ?_⟩, rfl⟩) (h.rd r hm)⟩
  · rcases List.mem_append.1 hp with hp | hp
    · exact ⟨ht.1.1 p hp, fun b hb => ht.2 b ⟨p, hp, hb⟩⟩
    · exact h.ok p (List.mem_cons_of_mem _ hp)
  · rcases List.mem_append.1 hp with hp | hp
    · exact fun e => hb.2 _ (List.mem_cons_self) ⟨p, hp, e⟩
    · exact hb.2 p (List.mem_cons_of_mem _ hp)

/-- A part of what is owned, in front, is given away as the result of a call that owned nothing before. -/
theorem St.give (h : St (b0 w) (o :: m) rs w') : Rel w w' ∧ o.ok w' ∧ ∀ b, o.fp b → w.heap.size ≤ b := ⟨h.rel, h.top, fun b hb => ((h.ok o (List.mem_cons_self)).2 b hb).resolve_right fun h => h⟩

end

end Go.Proofs.Ythnnhoabdhhkaaa
