/- The verification layer, part A: a frame is seen through a short list of slots; rules for code, regions and loops over such lists. No condition. -/
import Derived.WalkKit
import Derived.Orders
import Derived.Still
import Derived.Deep.AppendSrc
import Derived.Great.BuildSlice
import Derived.Laws.IdiomCopy
import Derived.Laws.Strings
namespace Go.Proofs.YtjbonmmmcnpjiaaGreatDoor
open Go.RowKit

/-- Slots that are known: number and value. -/
abbrev Env := List (Nat × Value)

def lk : Env → Nat → Option Value
  | [], _ => none
  | (k, v) :: r, t => bif Nat.beq k t then some v else lk r t

def ev (env : Env) : Operand → Option Value
  | .tmp t => lk env t
  | .const v => some v
  | .global g => some (.pointer (some ⟨g, 0, none⟩))
  | .func f => some (.func (.func f) #[] #[])

/-- The frame holds what the list says. -/
structure Has (n : Nat) (a : Act) (env : Env) : Prop where
  df : a.defers = []
  sz : a.tmps.size = n
  at' : ∀ t v, lk env t = some v → a.tmps[t]? = some v

theorem Has.ev {n : Nat} {a : Act} {env : Env} (h : Has n a env) {x : Operand} {v : Value} (hx : ev env x = some v) : a.eval x = v := by
  cases x with
  | tmp t =>
    have h1 := h.at' t v hx
    simp only [Act.eval, Array.getD_eq_getD_getElem?, h1, Option.getD_some]
  | const u => simp only [Go.Proofs.YtjbonmmmcnpjiaaGreatDoor.ev, Option.some.injEq] at hx; simp [Act.eval, hx]
  | global g => simp only [Go.Proofs.YtjbonmmmcnpjiaaGreatDoor.ev, Option.some.injEq] at hx; simp [Act.eval, hx]
  | func f => simp only [Go.Proofs.YtjbonmmmcnpjiaaGreatDoor.ev, Option.some.injEq] at hx; simp [Act.eval, hx]

theorem beq_ne {a b : Nat} (h : a ≠ b) : Nat.beq a b = false := by
  cases hb : Nat.beq a b with
  | false => rfl
  | true => exact absurd (Nat.eq_of_beq_eq_true hb) h

theorem Has.put {n : Nat} {a : Act} {env : Env} (h : Has n a env) {d : Nat} (hd : Nat.blt d n = true) (v : Value) : Has n (a.put (some d) v) ((d, v) :: env) := by
  have hd' : d < a.tmps.size := by rw [h.sz]; simpa using hd
  refine ⟨h.df, by simp [Act.put, h.sz], fun t u ht => ?_⟩
  simp only [lk] at ht
  by_cases e : d = t
  · subst e
    simp at ht
    subst ht
    simp [Act.put, hd']
  · rw [beq_ne e] at ht
    simp only [Act.put, Array.getElem?_setIfInBounds_ne e]
    exact h.at' t u ht

theorem Has.skip {n : Nat} {a : Act} {env : Env} (h : Has n a env) (v : Value) : Has n (a.put none v) env := h

/-- An empty place in the list: a slot whose value is no longer known. -/
theorem Has.lose {n : Nat} {a : Act} {env : Env} (h : Has n a env) {env' : Env} (hc : ∀ t v, lk env' t = some v → lk env t = some v) : Has n a env' :=
  ⟨h.df, h.sz, fun t v ht => h.at' t v (hc t v ht)⟩

def Cov (env : Env) : Env → Prop
  | [] => True
  | (t, v) :: r => lk env t = some v ∧ Cov env r

theorem Cov.sub {env : Env} : ∀ {env' : Env}, Cov env env' → ∀ t v, lk env' t = some v → lk env t = some v
  | [], _, t, v, h => by cases h
  | (k, u) :: r, h, t, v, ht => by
    simp only [lk] at ht
    by_cases e : k = t
    · subst e; simp at ht; subst ht; exact h.1
    · rw [beq_ne e] at ht
      exact h.2.sub t v ht

abbrev Post := Exit → Env → World → Prop

def lift (n : Nat) (Q : Post) : Exit → Act → World → Prop := fun e a w => ∃ env, Has n a env ∧ Q e env w

/-- A list of operations (plain order). -/
def WL (P : Program) (n : Nat) (ops : Array Oper) (l : List Oper) (Q : Post) (env : Env) (w : World) : Prop :=
  ∀ a, Has n a env → wpList P ops (lift n Q) l a w

def WC (P : Program) (n : Nat) (c : Code) (Q : Post) (env : Env) (w : World) : Prop :=
  ∀ a, Has n a env → c.wp P (lift n Q) a w

def Runs (P : Program) (n : Nat) (env : Env) (w : World) (o : Oper) (v : Value) (w' : World) : Prop :=
  ∀ a, Has n a env → (execOp a.eval o).run P w = .ok (.value v) w'

def RunsU (P : Program) (n : Nat) (env : Env) (w : World) (o : Oper) (w' : World) : Prop :=
  ∀ a, Has n a env → (execOp a.eval o).run P w = .ok .skip w'

section
variable {P : Program} {n : Nat} {ops : Array Oper} {l rest : List Oper} {Q : Post} {env : Env} {w w' : World}

theorem WL.lose (h : WL P n ops l Q env w) {env0 : Env} (hc : Cov env0 env) : WL P n ops l Q env0 w := fun a ha => h a (ha.lose hc.sub)
theorem WC.lose {c : Code} (h : WC P n c Q env w) {env0 : Env} (hc : Cov env0 env) : WC P n c Q env0 w := fun a ha => h a (ha.lose hc.sub)

theorem wl_nil (h : Q .normal env w) : WL P n ops [] Q env w := fun _ ha => ⟨env, ha, h⟩

theorem wv {d : Nat} {op : Op} {ty : TypeId} {pos : String} {af : Array Edge} {v : Value} (hd : Nat.blt d n = true) (hr : Runs P n env w ⟨some d, op, ty, pos, af, none⟩ v w')
    (h : WL P n ops rest Q ((d, v) :: env) w') : WL P n ops (⟨some d, op, ty, pos, af, none⟩ :: rest) Q env w := fun a ha =>
  wpList_plain rfl fun K hK => by
    unfold Oper.wp
    rw [hr a ha]
    exact hK _ _ (h _ (ha.put hd v))

theorem wu {op : Op} {ty : TypeId} {pos : String} {af : Array Edge} (hr : RunsU P n env w ⟨none, op, ty, pos, af, none⟩ w')
    (h : WL P n ops rest Q env w') : WL P n ops (⟨none, op, ty, pos, af, none⟩ :: rest) Q env w := fun a ha =>
  wpList_plain rfl fun K hK => by
    unfold Oper.wp
    rw [hr a ha]
    exact hK _ _ (h _ ha)

/-- What an operation's guard says, by the list. -/
def gd (ops : Array Oper) (env : Env) (j : Nat) : Option Value := ((ops[j]?).bind (·.dst)).bind (lk env)

theorem yielded_of {a : Act} (ha : Has n a env) {j : Nat} {b : Bool} (h : gd ops env j = some (.bool b)) : yielded ops a.tmps j = some b := by
  unfold gd at h
  unfold yielded
  cases ho : ops[j]? with
  | none => simp [ho] at h
  | some o =>
    simp only [ho, Option.bind_some] at h ⊢
    cases hd : o.dst with
    | none => simp [hd] at h
    | some d =>
      simp only [hd, Option.bind_some] at h ⊢
      have := ha.at' d _ h
      simp [this]

/-- A guarded operation that is carried out. -/
theorem wvg {d : Nat} {op : Op} {ty : TypeId} {pos : String} {af : Array Edge} {j : Nat} {b : Bool} {v : Value} (hg : gd ops env j = some (.bool b)) (hd : Nat.blt d n = true)
    (hr : Runs P n env w ⟨some d, op, ty, pos, af, some (j, b)⟩ v w')
    (h : WL P n ops rest Q ((d, v) :: env) w') : WL P n ops (⟨some d, op, ty, pos, af, some (j, b)⟩ :: rest) Q env w := fun a ha => by
  unfold wpList
  rw [if_pos (by simp [Region.wanted, yielded_of ha hg])]
  refine .inl ?_
  unfold Oper.wp
  rw [hr a ha]
  exact h _ (ha.put hd v)

-- Codes

theorem wc_region {id : Nat} (h : WL P n l.toArray l Q env w) : WC P n (.region id l.toArray false) Q env w := fun a ha => wp_region_lit (h a ha)

def sq (P : Program) (n : Nat) (c : Code) (Q : Post) : Post
  | .normal, env, w => WC P n c Q env w
  | e, env, w => Q e env w

theorem wc_seq {x y : Code} (h : WC P n x (sq P n y Q) env w) : WC P n (.seq x y) Q env w := fun a ha =>
  wp_seq (wp_mono (h a ha) fun e a' w' hq => by
    obtain ⟨env', ha', hq⟩ := hq
    cases e with
    | normal => exact hq a' ha'
    | _ => exact ⟨env', ha', hq⟩)

theorem wc_skip (h : Q .normal env w) : WC P n .skip Q env w := fun _ ha => wp_skip ⟨env, ha, h⟩
theorem wc_exit {id : Nat} (h : Q (.exit id) env w) : WC P n (.exit id) Q env w := fun _ ha => wp_exit ⟨env, ha, h⟩
theorem wc_ret (h : Q .ret env w) : WC P n .ret Q env w := fun _ ha => wp_ret ⟨env, ha, h⟩

theorem wc_cond {c : Operand} {x y : Code} {t : Bool} (hc : ev env c = some (.bool t)) (ht : t = true → WC P n x Q env w) (hf : t = false → WC P n y Q env w) : WC P n (.cond c x y) Q env w := fun a ha =>
  wp_cond_split (ha.ev hc) (fun h => ht h a ha) (fun h => hf h a ha)

def bk (id : Nat) (Q : Post) : Post
  | .exit i, env, w => bif Nat.beq i id then Q .normal env w else Q (.exit i) env w
  | e, env, w => Q e env w

theorem wc_block {id : Nat} {c : Code} (h : WC P n c (bk id Q) env w) : WC P n (.block id c) Q env w := fun a ha =>
  wp_block (wp_mono (h a ha) fun e a' w' hq => by
    obtain ⟨env', ha', hq⟩ := hq
    cases e with
    | exit i =>
      simp only [bk] at hq
      by_cases e : i = id
      · subst e; simp at hq; simp only [Exit.inBlock, if_true]; exact ⟨env', ha', hq⟩
      · rw [beq_ne e] at hq; simp only [Exit.inBlock, if_neg e]; exact ⟨env', ha', hq⟩
    | _ => exact ⟨env', ha', hq⟩)

/-- The end of a loop's round. -/
def lp {α : Type} (E : α → Env) (Φ : α → World → Prop) (μ : α → Nat) (x : α) (Q : Post) : Post
  | .normal, env, w => ∃ y, μ y < μ x ∧ Cov env (E y) ∧ Φ y w
  | e, env, w => Q e env w

theorem wc_loop {α : Type} (E : α → Env) (Φ : α → World → Prop) (μ : α → Nat) (x0 : α) {c : Code} (hc : Cov env (E x0)) (h0 : Φ x0 w)
    (hr : ∀ x w, Φ x w → WC P n c (lp E Φ μ x Q) (E x) w) : WC P n (.loop c) Q env w := by
  intro a ha b k cs
  have turn : ∀ m x a w, μ x = m → Has n a (E x) → Φ x w →
      ∃ e a' w', lift n Q e a' w' ∧ Arrives P (lone (b.at a (.code c :: .inLoop c :: k)) cs w) b k cs e a' w' := by
    intro m
    induction m using Nat.strongRecOn with
    | _ m ih =>
      intro x a w hm h1 h2
      obtain ⟨e, a1, w1, ⟨env1, he1, hq⟩, harr⟩ := hr x w h2 a h1 b (.inLoop c :: k) cs
      cases e with
      | normal =>
        obtain ⟨y, hy, hcy, hΦ⟩ := hq
        obtain ⟨e2, a2, w2, hq2, harr2⟩ := ih (μ y) (hm ▸ hy) y a1 w1 rfl (he1.lose hcy.sub) hΦ
        exact ⟨e2, a2, w2, hq2, .of_steps (Steps.trans harr (.one step_inLoop)) harr2⟩
      | _ => exact ⟨_, a1, w1, ⟨env1, he1, hq⟩, .pass (x := .inLoop c) rfl (fun _ _ => .inl (by simp)) harr⟩
  obtain ⟨e, a', w', hq, harr⟩ := turn _ x0 a w rfl (ha.lose hc.sub) h0
  exact ⟨e, a', w', hq, .of_steps (.one step_loop) harr⟩

end
end Go.Proofs.YtjbonmmmcnpjiaaGreatDoor
namespace Go.Proofs.YtjbonmmmcnpjiaaGreatDoor
open Go.RowKit

/-- A set of blocks. -/
abbrev Bs := Nat → Prop

/-- Nothing that was there has changed. -/
def Rel (w w' : World) : Prop := Below w.heap.size w w'

theorem Rel.refl (w : World) : Rel w w := Below.refl _ _
theorem Rel.size {w w' : World} (h : Rel w w') : w.heap.size ≤ w'.heap.size := Below.size h
theorem Rel.trans {a b c : World} (h : Rel a b) (k : Rel b c) : Rel a c := Below.trans h (Below.mono k h.size)
theorem Rel.block {w w' : World} (h : Rel w w') {b : Nat} (hb : b < w.heap.size) : w'.heap[b]? = w.heap[b]? := Below.block h b hb
theorem Rel.cell {w w' : World} (h : Rel w w') {a : Addr} (hb : a.block < w.heap.size) : w'.cell? a = w.cell? a := Below.cell h hb
theorem Rel.alloc (w : World) (o : Obj) : Rel w (w.alloc o) := (Below.refl _ _).alloc (Nat.le_refl _) o
theorem Rel.drew {w w' : World} (h : Rel w w') : Rel w w'.drew := Below.drew h

/-- The same but for the blocks X, which are lent to the call. -/
structure RelX (X : Bs) (w w' : World) : Prop where
  os : w'.os = w.os
  tape : w'.tape = w.tape
  output : w'.output = w.output
  size : w.heap.size ≤ w'.heap.size
  block : ∀ k, k < w.heap.size → ¬ X k → w'.heap[k]? = w.heap[k]?

theorem Rel.x {w w' : World} (h : Rel w w') (X : Bs) : RelX X w w' := ⟨Below.os h, Below.tape h, Below.output h, h.size, fun _ hk _ => h.block hk⟩
theorem RelX.rel {X : Bs} {w w' : World} (h : RelX X w w') (hn : ∀ b, ¬ X b) : Rel w w' := ⟨h.os, h.tape, h.output, h.size, fun k hk => h.block k hk (hn k)⟩
theorem RelX.refl (X : Bs) (w : World) : RelX X w w := (Rel.refl w).x X
theorem RelX.trans {X : Bs} {a b c : World} (h : RelX X a b) (k : RelX X b c) : RelX X a c :=
  ⟨k.os.trans h.os, k.tape.trans h.tape, k.output.trans h.output, Nat.le_trans h.size k.size, fun i hi hx => (k.block i (Nat.lt_of_lt_of_le hi h.size) hx).trans (h.block i hi hx)⟩
theorem RelX.mono {X Y : Bs} {w w' : World} (h : RelX X w w') (hs : ∀ b, X b → Y b) : RelX Y w w' := ⟨h.os, h.tape, h.output, h.size, fun k hk hx => h.block k hk fun hy => hx (hs k hy)⟩
/-- A step that changes Y, seen from a call that was lent X and has made the rest. -/
theorem RelX.step {X Y : Bs} {a b c : World} (h : RelX X a b) (k : RelX Y b c) (hy : ∀ i, Y i → a.heap.size ≤ i ∨ X i) : RelX X a c :=
  ⟨k.os.trans h.os, k.tape.trans h.tape, k.output.trans h.output, Nat.le_trans h.size k.size, fun i hi hx => (k.block i (Nat.lt_of_lt_of_le hi h.size) fun e => by
    rcases hy i e with h' | h'
    · omega
    · exact hx h').trans (h.block i hi hx)⟩

/-- An assertion on a set of blocks. -/
structure As where
  ok : Bs → World → Prop
  loc : ∀ {F : Bs} {w w' : World}, (∀ b, F b → w'.heap[b]? = w.heap[b]?) → ok F w → ok F w'
  lt : ∀ {F : Bs} {w : World} {b : Nat}, ok F w → F b → b < w.heap.size
  up : ∀ {F F' : Bs} {w : World}, (∀ b, F b → F' b) → (∀ b, F' b → b < w.heap.size) → ok F w → ok F' w

theorem lt_loc {F : Bs} {w w' : World} (h : ∀ b, F b → w'.heap[b]? = w.heap[b]?) (hl : ∀ b, F b → b < w.heap.size) : ∀ b, F b → b < w'.heap.size := fun b hb => by
  have h1 := h b hb
  rw [Array.getElem?_eq_getElem (hl b hb)] at h1
  exact (Array.getElem?_eq_some_iff.1 h1).1

/-- Several assertions, on sets that have nothing in common. -/
def Sep : List As → Bs → World → Prop
  | [], F, w => ∀ b, F b → b < w.heap.size
  | a :: m, F, w => (∀ b, F b → b < w.heap.size) ∧ ∃ F1 F2 : Bs, a.ok F1 w ∧ Sep m F2 w ∧ (∀ b, F1 b → ¬ F2 b) ∧ (∀ b, F1 b → F b) ∧ (∀ b, F2 b → F b)

theorem Sep.lt {F : Bs} {w : World} : ∀ {m : List As}, Sep m F w → ∀ b, F b → b < w.heap.size
  | [], h => h
  | _ :: _, h => h.1

theorem Sep.up {F F' : Bs} {w : World} (hs : ∀ b, F b → F' b) (hl : ∀ b, F' b → b < w.heap.size) : ∀ {m : List As}, Sep m F w → Sep m F' w
  | [], _ => hl
  | _ :: _, ⟨_, F1, F2, h1, h2, h3, h4, h5⟩ => ⟨hl, F1, F2, h1, h2, h3, fun b hb => hs b (h4 b hb), fun b hb => hs b (h5 b hb)⟩

theorem Sep.loc {F : Bs} {w w' : World} (h : ∀ b, F b → w'.heap[b]? = w.heap[b]?) : ∀ {m : List As}, Sep m F w → Sep m F w'
  | [], hk => lt_loc h hk
  | _ :: _, ⟨h0, F1, F2, h1, h2, h3, h4, h5⟩ => ⟨lt_loc h h0, F1, F2, As.loc _ (fun b hb => h b (h4 b hb)) h1, h2.loc (fun b hb => h b (h5 b hb)), h3, h4, h5⟩

theorem Sep.swap {F : Bs} {w : World} {a c : As} {m : List As} (h : Sep (a :: c :: m) F w) : Sep (c :: a :: m) F w := by
  obtain ⟨h0, F1, F2, h1, ⟨h2, F3, F4, h3, h4, h5, h6, h7⟩, h8, h9, h10⟩ := h
  refine ⟨h0, F3, fun b => F1 b ∨ F4 b, h3, ⟨fun b hb => ?_, F1, F4, h1, h4, fun b hb h' => h8 b hb (h7 b h'), fun _ h => .inl h, fun _ h => .inr h⟩, fun b hb h' => ?_, fun b hb => h10 b (h6 b hb), fun b hb => ?_⟩
  · rcases hb with hb | hb
    · exact h0 b (h9 b hb)
    · exact h2 b (h7 b hb)
  · rcases h' with h' | h'
    · exact h8 b h' (h6 b hb)
    · exact h5 b hb h'
  · rcases hb with hb | hb
    · exact h9 b hb
    · exact h10 b (h7 b hb)

theorem Sep.cons_mono {F : Bs} {w : World} {a : As} {m m' : List As} (h : Sep (a :: m) F w) (hm : ∀ F, Sep m F w → Sep m' F w) : Sep (a :: m') F w := by
  obtain ⟨h0, F1, F2, h1, h2, h3, h4, h5⟩ := h
  exact ⟨h0, F1, F2, h1, hm _ h2, h3, h4, h5⟩

theorem Sep.tail {F : Bs} {w : World} {a : As} {m : List As} (h : Sep (a :: m) F w) : Sep m F w := by
  obtain ⟨h0, F1, F2, h1, h2, h3, h4, h5⟩ := h
  exact h2.up h5 h0

theorem Sep.perm {w : World} {m m' : List As} (hp : m.Perm m') : ∀ {F : Bs}, Sep m F w → Sep m' F w := by
  induction hp with
  | nil => exact fun h => h
  | cons a _ ih => exact fun h => h.cons_mono fun _ => ih
  | swap a b l => exact fun h => h.swap
  | trans _ _ ih1 ih2 => exact fun h => ih2 (ih1 h)

theorem Sep.split {w : World} : ∀ {l m : List As} {F : Bs}, Sep (l ++ m) F w → ∃ F1 F2 : Bs, Sep l F1 w ∧ Sep m F2 w ∧ (∀ b, F1 b → ¬ F2 b) ∧ (∀ b, F1 b → F b) ∧ (∀ b, F2 b → F b)
  | [], m, F, h => ⟨fun _ => False, F, (fun _ h => h.elim), h, (fun _ h => h.elim), (fun _ h => h.elim), fun _ h => h⟩
  | a :: l, m, F, ⟨h0, F1, F2, h1, h2, h3, h4, h5⟩ => by
    obtain ⟨G1, G2, g1, g2, g3, g4, g5⟩ := Sep.split h2
    refine ⟨fun b => F1 b ∨ G1 b, G2, ⟨fun b hb => ?_, F1, G1, h1, g1, fun b hb h' => h3 b hb (g4 b h'), fun _ h => .inl h, fun _ h => .inr h⟩, g2, fun b hb h' => ?_, fun b hb => ?_, fun b hb => h5 b (g5 b hb)⟩
    · rcases hb with hb | hb
      · exact h0 b (h4 b hb)
      · exact h0 b (h5 b (g4 b hb))
    · rcases hb with hb | hb
      · exact h3 b hb (g5 b h')
      · exact g3 b hb h'
    · rcases hb with hb | hb
      · exact h4 b hb
      · exact h5 b (g4 b hb)

theorem Sep.join {w : World} : ∀ {l m : List As} {F1 F2 : Bs}, Sep l F1 w → Sep m F2 w → (∀ b, F1 b → ¬ F2 b) → Sep (l ++ m) (fun b => F1 b ∨ F2 b) w
  | [], m, F1, F2, h1, h2, _ => h2.up (fun _ h => .inr h) fun b hb => by
    rcases hb with hb | hb
    · exact h1 b hb
    · exact h2.lt b hb
  | a :: l, m, F1, F2, ⟨h0, G1, G2, g1, g2, g3, g4, g5⟩, h2, hd => by
    have ih := Sep.join g2 h2 fun b hb => hd b (g5 b hb)
    refine ⟨fun b hb => ?_, G1, _, g1, ih, fun b hb h' => ?_, fun b hb => .inl (g4 b hb), fun b hb => ?_⟩
    · rcases hb with hb | hb
      · exact h0 b hb
      · exact h2.lt b hb
    · rcases h' with h' | h'
      · exact g3 b hb h'
      · exact hd b (g4 b hb) h'
    · rcases hb with hb | hb
      · exact .inl (g5 b hb)
      · exact .inr hb

/-- What lies in one cell. -/
structure Ce where
  rd : Bs → World → Value → Prop
  mono : ∀ {S S' : Bs} {w w' : World} {v : Value}, (∀ b, S b → S' b ∧ w'.heap[b]? = w.heap[b]?) → rd S w v → rd S' w' v
  ow : Bs → World → Value → Prop
  loc : ∀ {F : Bs} {w w' : World} {v : Value}, (∀ b, F b → w'.heap[b]? = w.heap[b]?) → ow F w v → ow F w' v
  lt : ∀ {F : Bs} {w : World} {v : Value} {b : Nat}, ow F w v → F b → b < w.heap.size
  up : ∀ {F F' : Bs} {w : World} {v : Value}, (∀ b, F b → F' b) → (∀ b, F' b → b < w.heap.size) → ow F w v → ow F' w v
  seen : ∀ {F : Bs} {w : World} {v : Value}, ow F w v → rd F w v
  one : ∀ {S : Bs} {w : World} {v : Value}, rd S w v → v.oneCell' = true

/-- One known cell. -/
def cV (u : Value) (hu : u.oneCell' = true := by rfl) : Ce where
  rd := fun _ _ v => v = u
  mono := fun _ h => h
  ow := fun F w v => v = u ∧ ∀ b, F b → b < w.heap.size
  loc := fun h hk => ⟨hk.1, lt_loc h hk.2⟩
  lt := fun hk hb => hk.2 _ hb
  up := fun _ hl hk => ⟨hk.1, hl⟩
  seen := fun hk => hk.1
  one := fun hk => hk ▸ hu

def cI (n : Int) : Ce := cV (.int .i64 n)
def cB (b : Bool) : Ce := cV (.bool b)
def cT (s : ByteArray) : Ce := cV (.string s)
def cY (n : UInt8) : Ce := cV (.int .u8 (n.toNat : Int))

def oC (c : Ce) (v : Value) : As := ⟨fun F w => c.ow F w v, c.loc, c.lt, c.up⟩

def zipC : List Ce → List Value → List As
  | c :: cs, v :: vs => oC c v :: zipC cs vs
  | _, _ => []

theorem zipC_append : ∀ {cs ds : List Ce} {vs us : List Value}, cs.length = vs.length → zipC (cs ++ ds) (vs ++ us) = zipC cs vs ++ zipC ds us
  | [], _, [], _, _ => rfl
  | [], _, _ :: _, _, h => by simp at h
  | _ :: _, _, [], _, h => by simp at h
  | c :: cs, ds, v :: vs, us, h => by
    simp only [List.cons_append, zipC, List.cons.injEq, true_and]
    exact zipC_append (by simpa using h)

def rdAll (S : Bs) (w : World) : List Ce → List Value → Prop
  | [], vs => vs = []
  | c :: cs, vs => ∃ v r, vs = v :: r ∧ c.rd S w v ∧ rdAll S w cs r

theorem rdAll_mono {S S' : Bs} {w w' : World} (h : ∀ b, S b → S' b ∧ w'.heap[b]? = w.heap[b]?) : ∀ (cs : List Ce) (vs : List Value), rdAll S w cs vs → rdAll S' w' cs vs
  | [], _, hk => hk
  | c :: cs, _, ⟨v, r, e, h1, h2⟩ => ⟨v, r, e, c.mono h h1, rdAll_mono h cs r h2⟩

theorem rdAll_len {S : Bs} {w : World} : ∀ {cs : List Ce} {vs : List Value}, rdAll S w cs vs → vs.length = cs.length
  | [], _, h => by rw [h]; rfl
  | _ :: _, _, ⟨v, r, e, _, h2⟩ => by rw [e, List.length_cons, rdAll_len h2, List.length_cons]

theorem rdAll_append {S : Bs} {w : World} : ∀ {cs ds : List Ce} {vs us : List Value}, rdAll S w cs vs → rdAll S w ds us → rdAll S w (cs ++ ds) (vs ++ us)
  | [], _, _, _, h, h' => by have : _ = [] := h; subst this; exact h'
  | c :: cs, ds, _, us, ⟨v, r, e, h1, h2⟩, h' => by subst e; exact ⟨v, r ++ us, rfl, h1, rdAll_append h2 h'⟩

theorem rdAll_get {S : Bs} {w : World} : ∀ {cs : List Ce} {vs : List Value}, rdAll S w cs vs → ∀ {j : Nat} {c : Ce}, cs[j]? = some c → ∃ v, vs[j]? = some v ∧ c.rd S w v
  | [], _, _, j, c, hj => by simp at hj
  | c :: cs, _, ⟨v, r, e, h1, h2⟩, 0, c', hj => by
    simp at hj; subst hj; subst e; exact ⟨v, rfl, h1⟩
  | c :: cs, _, ⟨v, r, e, h1, h2⟩, j + 1, c', hj => by
    subst e; exact rdAll_get h2 (by simpa using hj)

theorem zipC_seen {w : World} : ∀ {cs : List Ce} {vs : List Value} {F : Bs}, cs.length = vs.length → Sep (zipC cs vs) F w → rdAll F w cs vs
  | [], [], _, _, _ => rfl
  | [], _ :: _, _, h, _ => by simp at h
  | _ :: _, [], _, h, _ => by simp at h
  | c :: cs, v :: vs, F, hl, ⟨_, F1, F2, h1, h2, _, h4, h5⟩ =>
    ⟨v, vs, rfl, c.mono (fun b hb => ⟨h4 b hb, rfl⟩) (c.seen h1), rdAll_mono (fun b hb => ⟨h5 b hb, rfl⟩) _ _ (zipC_seen (by simpa using hl) h2)⟩

/-- A row that is owned: n elements of k cells, the cells xs. -/
def oRow (k : Nat) (v : Value) (n : Nat) (xs : List Value) : As where
  ok := fun F w => (∀ b, F b → b < w.heap.size) ∧ xs.length = n * k ∧ ((v = .slice none 0 0 ∧ n = 0) ∨ ∃ b off cap cur e, v = .slice (some ⟨b, off, none⟩) n cap ∧ F b ∧ w.heap[b]? = some (.cells cur e (0, 0)) ∧ n ≤ cap ∧ cap ≤ maxLen ∧ off + cap * k ≤ cur.size ∧ (cur.toList.drop off).take (n * k) = xs)
  loc := fun h ⟨h0, h1, h2⟩ => ⟨lt_loc h h0, h1, h2.imp id fun ⟨b, off, cap, cur, e, e1, hb, hg, r⟩ => ⟨b, off, cap, cur, e, e1, hb, (h b hb).trans hg, r⟩⟩
  lt := fun ⟨h0, _⟩ hb => h0 _ hb
  up := fun hs hl ⟨_, h1, h2⟩ => ⟨hl, h1, h2.imp id fun ⟨b, off, cap, cur, e, e1, hb, r⟩ => ⟨b, off, cap, cur, e, e1, hs b hb, r⟩⟩

def oBox (b : Nat) (cs : Array Value) (e : TypeId) : As where
  ok := fun F w => (∀ b, F b → b < w.heap.size) ∧ F b ∧ w.heap[b]? = some (.cells cs e (0, 0))
  loc := fun h ⟨h0, h1, h2⟩ => ⟨lt_loc h h0, h1, (h b h1).trans h2⟩
  lt := fun ⟨h0, _⟩ hb => h0 _ hb
  up := fun hs hl ⟨_, h1, h2⟩ => ⟨hl, hs b h1, h2⟩

/-- A slice of elements of k cells. -/
def cSl (k : Nat) {T : Type} (f : T → List Ce) (L : List T) : Ce where
  rd := fun S w v => ∃ a cap, v = .slice a L.length cap ∧ L.length ≤ cap ∧ cap ≤ maxLen ∧ (L ≠ [] → ∃ b off xs, a = some ⟨b, off, none⟩ ∧ S b ∧ xs.length = L.length * k ∧ (∀ j u, xs[j]? = some u → w.cell? ⟨b, off + j, none⟩ = some u) ∧ rdAll S w (L.flatMap f) xs)
  mono := fun {S S' w w' v} h ⟨a, cap, e, h1, h2, h3⟩ => ⟨a, cap, e, h1, h2, fun hl => by
    obtain ⟨b, off, xs, ea, hb, hx, hc, he⟩ := h3 hl
    exact ⟨b, off, xs, ea, (h b hb).1, hx, fun j u hj => (World.cell?_of_block (w := w) (w' := w') (a := ⟨b, off + j, none⟩) (h b hb).2).trans (hc j u hj), rdAll_mono h _ _ he⟩⟩
  ow := fun F w v => ∃ xs : List Value, (L.flatMap f).length = xs.length ∧ Sep (oRow k v L.length xs :: zipC (L.flatMap f) xs) F w
  loc := fun h ⟨xs, h1, h2⟩ => ⟨xs, h1, h2.loc h⟩
  lt := fun ⟨_, _, h2⟩ hb => h2.lt _ hb
  up := fun hs hl ⟨xs, h1, h2⟩ => ⟨xs, h1, h2.up hs hl⟩
  seen := fun {F w v} ⟨xs, h1, h2⟩ => by
    obtain ⟨h0, F1, F2, ⟨_, hx, hr⟩, h4, _, h6, h7⟩ := h2
    have h8 := rdAll_mono (fun b hb => ⟨h7 b hb, rfl⟩) _ _ (zipC_seen h1 h4)
    rcases hr with ⟨rfl, hn⟩ | ⟨b, off, cap, cur, e, rfl, hb, hg, hnc, hcm, hsz, htk⟩
    · exact ⟨none, 0, by rw [hn], by omega, by simp [maxLen], fun hne => absurd (List.eq_nil_of_length_eq_zero hn) hne⟩
    · refine ⟨_, cap, rfl, hnc, hcm, fun _ => ⟨b, off, xs, rfl, h6 b hb, hx, fun j u hj => ?_, h8⟩⟩
      rw [← htk, List.getElem?_take] at hj
      split at hj
      · rw [List.getElem?_drop, Array.getElem?_toList] at hj
        simp [World.cell?, hg, hj]
      · cases hj
  one := fun ⟨_, _, e, _⟩ => by rw [e]; rfl

/-- Something seen in what is owned. -/
structure Vi where
  ok : Bs → World → Prop
  loc : ∀ {F : Bs} {w w' : World}, (∀ b, F b → w'.heap[b]? = w.heap[b]?) → ok F w → ok F w'
  up : ∀ {F F' : Bs} {w : World}, (∀ b, F b → F' b) → ok F w → ok F' w

/-- It stands there. -/
def vC (a : Addr) (v : Value) : Vi := ⟨fun F w => F a.block ∧ w.cell? a = some v, fun h hk => ⟨hk.1, (World.cell?_of_block (h _ hk.1)).trans hk.2⟩, fun h hk => ⟨h _ hk.1, hk.2⟩⟩

/-- Things seen in what is owned. -/
def oV (o : As) (l : List Vi) : As where
  ok := fun F w => o.ok F w ∧ ∀ r ∈ l, r.ok F w
  loc := fun h ⟨h1, h2⟩ => ⟨o.loc h h1, fun r hr => r.loc h (h2 r hr)⟩
  lt := fun ⟨h1, _⟩ hb => o.lt h1 hb
  up := fun hs hl ⟨h1, h2⟩ => ⟨o.up hs hl h1, fun r hr => r.up hs (h2 r hr)⟩

/-- A reading. -/
structure Rd where
  ok : Bs → World → Prop
  mono : ∀ {S S' : Bs} {w w' : World}, (∀ b, S b → S' b ∧ w'.heap[b]? = w.heap[b]?) → ok S w → ok S' w'

def rV (v : Value) (c : Ce) : Rd := ⟨fun S w => c.rd S w v, c.mono⟩
/-- Where a call began, the blocks that are lent to it, the blocks that it may read. -/
structure Base where
  w : World
  X : Bs
  S : Bs

/-- The state of a call in progress: what it owns, what it may read. -/
structure St (w0 : Base) (m : List As) (rs : List Rd) (w : World) : Prop where
  relx : RelX w0.X w0.w w
  base : ∀ b, w0.S b → b < w0.w.heap.size ∧ ¬ w0.X b
  ex : ∃ F : Bs, Sep m F w ∧ (∀ b, F b → w0.w.heap.size ≤ b ∨ w0.X b) ∧ ∀ r ∈ rs, r.ok (fun b => (w0.S b ∨ w0.X b ∨ w0.w.heap.size ≤ b) ∧ b < w.heap.size ∧ ¬ F b) w

/-- What a call gives: it has changed no old block but X; what it gives lies in X or in new memory. -/
structure Gives (X S : Bs) (w : World) (m : List As) (rs : List Rd) (w' : World) : Prop where
  relx : RelX X w w'
  ex : ∃ F : Bs, Sep m F w' ∧ (∀ b, F b → w.heap.size ≤ b ∨ X b) ∧ ∀ r ∈ rs, r.ok (fun b => (S b ∨ X b ∨ w.heap.size ≤ b) ∧ b < w'.heap.size ∧ ¬ F b) w'

section
variable {w0 : Base} {w w' : World} {m l l' : List As} {rs rs' : List Rd} {a a' : As}

theorem St.enter {X S : Bs} (hL : Sep m X w) (hS : ∀ b, S b → b < w.heap.size ∧ ¬ X b) : St ⟨w, X, S⟩ m [] w :=
  ⟨RelX.refl _ _, hS, X, hL, fun _ h => .inr h, (fun _ h => by cases h)⟩

/-- A reading that was handed in. -/
theorem St.addE {X S : Bs} (h : St ⟨w, X, S⟩ m rs w) {r : Rd} (hr : r.ok S w) : St ⟨w, X, S⟩ m (r :: rs) w := by
  obtain ⟨h1, hb, F, h2, h3, h4⟩ := h
  refine ⟨h1, hb, F, h2, h3, fun r' hr' => ?_⟩
  rcases List.mem_cons.1 hr' with rfl | hr'
  · refine r'.mono (fun b hb' => ⟨⟨.inl hb', (hb b hb').1, fun hf => ?_⟩, rfl⟩) hr
    have h5 := hb b hb'
    rcases h3 b hf with h6 | h6
    · have : b < w.heap.size := h5.1
      have : w.heap.size ≤ b := h6
      omega
    · exact h5.2 h6
  · exact h4 r' hr'

theorem St.gives (h : St w0 m rs w) : Gives w0.X w0.S w0.w m rs w := ⟨h.relx, h.ex⟩

theorem Gives.fewer {X S : Bs} (h : Gives X S w m rs w') (hs : ∀ r ∈ rs', r ∈ rs) : Gives X S w m rs' w' := by
  obtain ⟨h1, F, h2, h3, h4⟩ := h
  exact ⟨h1, F, h2, h3, fun r hr => h4 r (hs r hr)⟩

/-- The first things owned are looked at otherwise. -/
theorem St.iso (h : St w0 (l ++ m) rs w) (hi : ∀ F, Sep l F w → Sep l' F w) : St w0 (l' ++ m) rs w := by
  obtain ⟨h1, hb, F, h2, h3, h4⟩ := h
  obtain ⟨F1, F2, g1, g2, g3, g4, g5⟩ := h2.split
  have g6 := (Sep.join (hi F1 g1) g2 g3).up (F' := F) (fun b hb => by
    rcases hb with hb | hb
    · exact g4 b hb
    · exact g5 b hb) h2.lt
  exact ⟨h1, hb, F, g6, h3, h4⟩

theorem St.perm {m' : List As} (h : St w0 m rs w) (hp : m.Perm m') : St w0 m' rs w := by
  obtain ⟨h1, hb, F, h2, h3, h4⟩ := h
  exact ⟨h1, hb, F, h2.perm hp, h3, h4⟩

/-- The first things owned are written (or have moved to new memory). -/
theorem St.upd (h : St w0 (l ++ m) rs w) (hi : ∀ F, Sep l F w → ∃ F', Sep l' F' w' ∧ RelX F w w' ∧ ∀ b, F' b → F b ∨ w.heap.size ≤ b) : St w0 (l' ++ m) rs w' := by
  obtain ⟨h1, hb, F, h2, h3, h4⟩ := h
  obtain ⟨F1, F2, g1, g2, g3, g4, g5⟩ := h2.split
  obtain ⟨F', k1, k2, k3⟩ := hi F1 g1
  have g2' : Sep m F2 w' := g2.loc fun b hb => k2.block b (g2.lt b hb) fun h' => g3 b h' hb
  have hd : ∀ b, F' b → ¬ F2 b := fun b hb h' => by
    rcases k3 b hb with h'' | h''
    · exact g3 b h'' h'
    · have := g2.lt b h'; omega
  refine ⟨h1.step k2 fun b hb => h3 b (g4 b hb), hb, _, Sep.join k1 g2' hd, fun b hb' => ?_, fun r hr => ?_⟩
  · rcases hb' with hb' | hb'
    · rcases k3 b hb' with h' | h'
      · exact h3 b (g4 b h')
      · have := h1.size; exact .inl (by omega)
    · exact h3 b (g5 b hb')
  · refine r.mono (fun b hb' => ⟨⟨hb'.1, Nat.lt_of_lt_of_le hb'.2.1 k2.size, fun h' => ?_⟩, k2.block b hb'.2.1 fun e => hb'.2.2 (g4 b e)⟩) (h4 r hr)
    rcases h' with h' | h'
    · rcases k3 b h' with h'' | h''
      · exact hb'.2.2 (g4 b h'')
      · have := hb'.2.1; omega
    · exact hb'.2.2 (g5 b h')

theorem St.call (h : St w0 m rs w) (hr : Rel w w') : St w0 m rs w' :=
  St.upd (l := []) (l' := []) h fun F hF => ⟨F, fun b hb => Nat.lt_of_lt_of_le (hF b hb) hr.size, hr.x F, fun _ hb => .inl hb⟩

/-- What is owned is only read from now on. -/
theorem St.fix {r : Rd} (h : St w0 (l ++ m) rs w) (hr : ∀ F, Sep l F w → r.ok F w) : St w0 m (r :: rs) w := by
  obtain ⟨h1, hb, F, h2, h3, h4⟩ := h
  obtain ⟨F1, F2, g1, g2, g3, g4, g5⟩ := h2.split
  refine ⟨h1, hb, F2, g2, fun b hb' => h3 b (g5 b hb'), fun r' hr' => ?_⟩
  rcases List.mem_cons.1 hr' with rfl | hr'
  · refine r'.mono (fun b hb' => ⟨⟨?_, h2.lt b (g4 b hb'), g3 b hb'⟩, rfl⟩) (hr F1 g1)
    exact .inr ((h3 b (g4 b hb')).elim .inr .inl)
  · exact r'.mono (fun b hb' => ⟨⟨hb'.1, hb'.2.1, fun h' => hb'.2.2 (g5 b h')⟩, rfl⟩) (h4 r' hr')

end
end Go.Proofs.YtjbonmmmcnpjiaaGreatDoor
namespace Go.Proofs.YtjbonmmmcnpjiaaGreatDoor
open Go.RowKit

section
variable {P : Program} {n : Nat} {env : Env} {w : World} {d : Option Tmp} {ty : TypeId} {pos : String} {af : Array Edge} {g : Option (Nat × Bool)}

theorem r_move {x : Operand} {v : Value} (hx : ev env x = some v) : Runs P n env w ⟨d, .move x, ty, pos, af, g⟩ v w := fun a ha => by simp [execOp, ha.ev hx]
theorem r_assign {x : Operand} {v : Value} (hx : ev env x = some v) : Runs P n env w ⟨d, .assign x, ty, pos, af, g⟩ v w := fun a ha => by simp [execOp, ha.ev hx]
theorem r_pick_t {c x y : Operand} {v : Value} (hc : ev env c = some (.bool true)) (hx : ev env x = some v) : Runs P n env w ⟨d, .pick c x y, ty, pos, af, g⟩ v w := fun a ha => by
  simp [execOp, ha.ev hc, ha.ev hx, asBool]
theorem r_pick_f {c x y : Operand} {v : Value} (hc : ev env c = some (.bool false)) (hy : ev env y = some v) : Runs P n env w ⟨d, .pick c x y, ty, pos, af, g⟩ v w := fun a ha => by
  simp [execOp, ha.ev hc, ha.ev hy, asBool]
theorem r_not {x : Operand} {t : TypeId} {b : Bool} (hx : ev env x = some (.bool b)) : Runs P n env w ⟨d, .unOp .not t x, ty, pos, af, g⟩ (.bool !b) w := fun a ha => by
  simp [execOp, ha.ev hx, Op.unary]

theorem i64_in {x : Int} (h : -9223372036854775808 ≤ x ∧ x ≤ 9223372036854775807) : IntKind.i64.wrap x = x := by
  have h1 : IntKind.i64.min = -9223372036854775808 := rfl
  exact IntWalk.i64_in _ h

theorem r_add {x y : Operand} {t u : TypeId} {i j : Int} (hx : ev env x = some (.int .i64 i)) (hy : ev env y = some (.int .i64 j)) (h : -9223372036854775808 ≤ i + j ∧ i + j ≤ 9223372036854775807) :
    Runs P n env w ⟨d, .binOp .add t x y u, ty, pos, af, g⟩ (.int .i64 (i + j)) w := fun a ha => by
  simp [execOp, ha.ev hx, ha.ev hy, eqGuard, binOp, Op.intArith, i64_in h]
theorem r_sub {x y : Operand} {t u : TypeId} {i j : Int} (hx : ev env x = some (.int .i64 i)) (hy : ev env y = some (.int .i64 j)) (h : -9223372036854775808 ≤ i - j ∧ i - j ≤ 9223372036854775807) :
    Runs P n env w ⟨d, .binOp .sub t x y u, ty, pos, af, g⟩ (.int .i64 (i - j)) w := fun a ha => by
  simp [execOp, ha.ev hx, ha.ev hy, eqGuard, binOp, Op.intArith, i64_in h]
theorem r_mul {x y : Operand} {t u : TypeId} {i j : Int} (hx : ev env x = some (.int .i64 i)) (hy : ev env y = some (.int .i64 j)) (h : -9223372036854775808 ≤ i * j ∧ i * j ≤ 9223372036854775807) :
    Runs P n env w ⟨d, .binOp .mul t x y u, ty, pos, af, g⟩ (.int .i64 (i * j)) w := fun a ha => by
  simp [execOp, ha.ev hx, ha.ev hy, eqGuard, binOp, Op.intArith, i64_in h]
theorem r_lss {x y : Operand} {t u : TypeId} {k : IntKind} {i j : Int} (hx : ev env x = some (.int k i)) (hy : ev env y = some (.int k j)) :
    Runs P n env w ⟨d, .binOp .lss t x y u, ty, pos, af, g⟩ (.bool (decide (i < j))) w := fun a ha => by
  simp [execOp, ha.ev hx, ha.ev hy, eqGuard, binOp, Op.intCmp]
theorem r_leq {x y : Operand} {t u : TypeId} {k : IntKind} {i j : Int} (hx : ev env x = some (.int k i)) (hy : ev env y = some (.int k j)) :
    Runs P n env w ⟨d, .binOp .leq t x y u, ty, pos, af, g⟩ (.bool (decide (i ≤ j))) w := fun a ha => by
  simp [execOp, ha.ev hx, ha.ev hy, eqGuard, binOp, Op.intCmp]
theorem r_gtr {x y : Operand} {t u : TypeId} {k : IntKind} {i j : Int} (hx : ev env x = some (.int k i)) (hy : ev env y = some (.int k j)) :
    Runs P n env w ⟨d, .binOp .gtr t x y u, ty, pos, af, g⟩ (.bool (decide (j < i))) w := fun a ha => by
  simp [execOp, ha.ev hx, ha.ev hy, eqGuard, binOp, Op.intCmp]
theorem r_geq {x y : Operand} {t u : TypeId} {k : IntKind} {i j : Int} (hx : ev env x = some (.int k i)) (hy : ev env y = some (.int k j)) :
    Runs P n env w ⟨d, .binOp .geq t x y u, ty, pos, af, g⟩ (.bool (decide (j ≤ i))) w := fun a ha => by
  simp [execOp, ha.ev hx, ha.ev hy, eqGuard, binOp, Op.intCmp]
theorem r_eql {x y : Operand} {t u : TypeId} {k : IntKind} {i j : Int} (hx : ev env x = some (.int k i)) (hy : ev env y = some (.int k j)) :
    Runs P n env w ⟨d, .binOp .eql t x y u, ty, pos, af, g⟩ (.bool (decide (i = j))) w := fun a ha => by
  simp [execOp, ha.ev hx, ha.ev hy, eqGuard, binOp, Op.intCmp]
  rfl
theorem r_neq {x y : Operand} {t u : TypeId} {k : IntKind} {i j : Int} (hx : ev env x = some (.int k i)) (hy : ev env y = some (.int k j)) :
    Runs P n env w ⟨d, .binOp .neq t x y u, ty, pos, af, g⟩ (.bool (!decide (i = j))) w := fun a ha => by
  simp [execOp, ha.ev hx, ha.ev hy, eqGuard, binOp, Op.intCmp]
  rfl
theorem run_eqIn_bool {t : TypeId} (k : Nat) (i j : Bool) (ht : P.underlying t = some .bool) (w : World) : (Op.equalIn (k + 1) t (.bool i) (.bool j)).run P w = .ok (i == j) w := by
  simp [Op.equalIn, run_underlying ht]
theorem r_neqb {x y : Operand} {t u : TypeId} {i j : Bool} (ht : P.underlying t = some .bool) (hx : ev env x = some (.bool i)) (hy : ev env y = some (.bool j)) :
    Runs P n env w ⟨d, .binOp .neq t x y u, ty, pos, af, g⟩ (.bool (!(i == j))) w := fun a ha => by
  have h1 := run_eqIn_bool 9999 i j ht w
  simp only [execOp, ha.ev hx, ha.ev hy, eqGuard, binOp, Op.equal, Op.maxDepth, Sem.run_bind, Sem.run_pure]
  simp [h1]

theorem r_len {x : Operand} {t e : TypeId} {a0 : Option Addr} {l c : Nat} (ht : P.underlying t = some (.slice e)) (hx : ev env x = some (.slice a0 l c)) :
    Runs P n env w ⟨d, .call { callee := .builtin .len, args := #[x], argTypes := #[t] }, ty, pos, af, g⟩ (.int .i64 (l : Int)) w := fun a ha => by
  simp [execOp, resolve, invoke, builtin, ha.ev hx, Builtin.len_, run_underlying ht, goInt]
theorem r_lens {x : Operand} {t : TypeId} {s : ByteArray} (ht : P.underlying t = some .string) (hx : ev env x = some (.string s)) :
    Runs P n env w ⟨d, .call { callee := .builtin .len, args := #[x], argTypes := #[t] }, ty, pos, af, g⟩ (.int .i64 (s.size : Int)) w := fun a ha => by
  simp [execOp, resolve, invoke, builtin, ha.ev hx, Builtin.len_, run_underlying ht, goInt]

theorem r_extract {x : Operand} {i : Nat} {vs : Array Value} {v : Value} (hx : ev env x = some (.tuple vs)) (hv : vs[i]? = some v) :
    Runs P n env w ⟨d, .extract x i, ty, pos, af, g⟩ v w := fun a ha => by
  simp [execOp, ha.ev hx, Instr.extract, hv]

theorem r_nilck {x : Operand} {a0 : Addr} (hx : ev env x = some (.pointer (some a0))) : Runs P n env w ⟨d, .nilCheck x, ty, pos, af, g⟩ (.pointer (some a0)) w := fun a ha => by
  simp [execOp, ha.ev hx]

/-- What the table of types says of one type. -/
def Sz (P : Program) (t : TypeId) (size bytes : Nat) (z : Value) : Prop := (P.info? t).map (fun i => (i.zero, i.size, i.bytes)) = some (some z, size, bytes) ∧ z.cells.size = size ∧ 0 < size

theorem Sz.info {t : TypeId} {size bytes : Nat} {z : Value} (h : Sz P t size bytes z) : ∃ i, P.info? t = some i ∧ i.zero = some z ∧ i.size = size ∧ i.bytes = bytes := by
  obtain ⟨h, _, _⟩ := h
  cases hi : P.info? t with
  | none => simp [hi] at h
  | some i => simp [hi] at h; exact ⟨i, rfl, h.1, h.2.1, h.2.2⟩

theorem Sz.run {t : TypeId} {size bytes : Nat} {z : Value} (h : Sz P t size bytes z) (w : World) : (sizeOf t).run P w = .ok size w := by
  obtain ⟨i, h1, _, h3, _⟩ := h.info
  simp [sizeOf, typeInfo, h1, h3]

theorem Sz.zero {t : TypeId} {size bytes : Nat} {z : Value} (h : Sz P t size bytes z) (w : World) : (zeroValue t).run P w = .ok z w := by
  obtain ⟨i, h1, h2, _⟩ := h.info
  simp [zeroValue, typeInfo, h1, h2]

/-- The address of a field. -/
theorem r_fld {x : Operand} {t : TypeId} {k off : Nat} {b o : Nat} {fs : Array Field} {f : Field} {size bytes : Nat} {z : Value} (ht : P.underlying t = some (.struct fs)) (hf : fs[k]? = some f) (ho : f.offset = off)
    (hs : Sz P f.type size bytes z) (hx : ev env x = some (.pointer (some ⟨b, o, none⟩))) :
    Runs P n env w ⟨d, .fieldAddr t x k, ty, pos, af, g⟩ (.pointer (some ⟨b, o + off, none⟩)) w := fun a ha => by
  have h0 : ¬ size = 0 := Nat.pos_iff_ne_zero.1 hs.2.2
  simp [execOp, ha.ev hx, Instr.fieldAt, run_underlying ht, hf, Instr.sureAddr, fieldPlace, hs.run, h0, ho, Addr.add_lit]

def noAgg : TypeDesc → Bool
  | .struct _ | .array _ _ => false
  | _ => true

/-- A load of one cell. -/
theorem r_ld {x : Operand} {t : TypeId} {a0 : Addr} {v : Value} {td : TypeDesc} (ht : P.underlying t = some td) (hn : noAgg td = true) (hx : ev env x = some (.pointer (some a0))) (hc : w.cell? a0 = some v) :
    Runs P n env w ⟨d, .load t x, ty, pos, af, g⟩ v w := fun a ha => by
  have hagg : (isAgg t).run P w = .ok false w := by
    simp only [isAgg, Sem.run_bind, run_underlying ht, Result.andThen_ok]
    cases td <;> first | rfl | cases hn
  simp only [execOp, ha.ev hx, Instr.loadAt, Instr.sureAddr, loadVar, Sem.run_bind, Sem.run_pure, Result.andThen_ok, hagg, Bool.false_eq_true, if_false, run_load, hc]

/-- A load of a whole struct. -/
theorem r_ldS {x : Operand} {t : TypeId} {a0 : Addr} {fs : Array Field} {size bytes : Nat} {z : Value} {cs : List Value} (ht : P.underlying t = some (.struct fs)) (hs : Sz P t size bytes z) (hx : ev env x = some (.pointer (some a0))) (hl : cs.length = size)
    (hc : ∀ (j : Nat) u, cs[j]? = some u → w.cell? (a0.add j) = some u) :
    Runs P n env w ⟨d, .load t x, ty, pos, af, g⟩ (.agg cs.toArray) w := fun a ha => by
  have h1 := run_loadCells_list (P := P) (w := w) a0 cs hc
  rw [hl] at h1
  simp [execOp, ha.ev hx, Instr.loadAt, Instr.sureAddr, loadVar, isAgg, run_underlying ht, hs.run, h1]


-- Results and calls

def RV (P : Program) (w : World) (env : Env) : ResultVar → Value → Prop
  | .tmp t, v => lk env t = some v
  | .cell a t, v => ∃ ad, lk env a = some (.pointer (some ad)) ∧ (loadVar t ad).run P w = .ok v w

def RVs (P : Program) (w : World) (env : Env) : List ResultVar → List Value → Prop
  | [], [] => True
  | r :: rs, v :: vs => RV P w env r v ∧ RVs P w env rs vs
  | _, _ => False

def resVal : List Value → Value
  | [v] => v
  | vs => .tuple vs.toArray

def rvSem (tmps : Array Value) : ResultVar → Sem Value
  | .tmp t => pure (tmps.getD t undef)
  | .cell a t => do loadVar t (← asAddr (tmps.getD a undef))

theorem run_rvSem {a : Act} (ha : Has n a env) {r : ResultVar} {v : Value} (h : RV P w env r v) : (rvSem a.tmps r).run P w = .ok v w := by
  cases r with
  | tmp t =>
    have := ha.at' t v h
    simp [rvSem, Array.getD_eq_getD_getElem?, this]
  | cell b t =>
    obtain ⟨ad, h2, h3⟩ := h
    have := ha.at' b _ h2
    simp [rvSem, Array.getD_eq_getD_getElem?, this, asAddr, h3]

theorem run_mapM_RVs {a : Act} (ha : Has n a env) : ∀ (rs : List ResultVar) (vs : List Value), RVs P w env rs vs → (rs.mapM (rvSem a.tmps)).run P w = .ok vs w
  | [], [], _ => by simp
  | r :: rs, v :: vs, h => by
    have ih := run_mapM_RVs ha rs vs h.2
    simp only [List.mapM_cons, Sem.run_bind, run_rvSem ha h.1, Result.andThen_ok, ih, Sem.run_pure]
  | [], _ :: _, h => h.elim
  | _ :: _, [], h => h.elim

theorem results_eq (fn : Func) (tmps : Array Value) : results fn tmps = (do
    let vs ← fn.results.mapM (rvSem tmps)
    pure (if h : vs.size = 1 then vs[0] else .tuple vs)) := by
  unfold results
  congr 1

theorem run_results {fn : Func} {a : Act} (ha : Has n a env) {vs : List Value} (h : RVs P w env fn.results.toList vs) : (results fn a.tmps).run P w = .ok (resVal vs) w := by
  have h1 := run_mapM_RVs (P := P) (w := w) ha _ _ h
  rw [results_eq, ← Array.toArray_toList (xs := fn.results), List.mapM_toArray]
  simp only [Sem.run_bind, Sem.run_map, h1, Result.andThen_ok, Sem.run_pure]
  congr 1
  match vs with
  | [] => rfl
  | [v] => rfl
  | v :: u :: r =>
    rw [dif_neg (by simp)]
    rfl

/-- The end of a function's body. -/
def fin (P : Program) (rs : List ResultVar) (K : Value → World → Prop) : Post := fun e env w => (e = .normal ∨ e = .ret) ∧ ∃ vs, RVs P w env rs vs ∧ K (resVal vs) w

theorem fin_ret {rs : List ResultVar} {K : Value → World → Prop} (vs : List Value) (h : RVs P w env rs vs) (hk : K (resVal vs) w) : fin P rs K .ret env w := ⟨.inr rfl, vs, h, hk⟩
theorem fin_end {rs : List ResultVar} {K : Value → World → Prop} (vs : List Value) (h : RVs P w env rs vs) (hk : K (resVal vs) w) : fin P rs K .normal env w := ⟨.inl rfl, vs, h, hk⟩

def Can (P : Program) (f : FuncId) : Prop := ∃ fn, P.funcs[f]? = some fn ∧ (fn.name == "runtime.NumGoroutine") = false ∧ fn.body.isNone = false

/-- A call that returns. -/
def Ret (P : Program) (f : FuncId) (vs : List Value) (w : World) (K : Value → World → Prop) : Prop :=
  Can P f ∧ Calls P f vs.toArray w (fun e w' => ∃ v, e = .returned v ∧ K v w')

theorem Ret.mono {f : FuncId} {vs : List Value} {K K' : Value → World → Prop} (h : Ret P f vs w K) (hk : ∀ v w', K v w' → K' v w') : Ret P f vs w K' :=
  ⟨h.1, h.2.mono fun _ _ ⟨v, e, k⟩ => ⟨v, e, hk _ _ k⟩⟩

def envOf : Nat → List Value → Env
  | _, [] => []
  | i, v :: r => (i, v) :: envOf (i + 1) r

theorem envOf_get : ∀ (vs : List Value) (i t : Nat) (v : Value), lk (envOf i vs) t = some v → i ≤ t ∧ vs[t - i]? = some v
  | [], _, _, _, h => by cases h
  | u :: r, i, t, v, h => by
    simp only [envOf, lk] at h
    by_cases e : i = t
    · subst e; simp at h; subst h; simp
    · rw [beq_ne e] at h
      have ih := envOf_get r (i + 1) t v h
      refine ⟨by omega, ?_⟩
      obtain ⟨k, hk⟩ : ∃ k, t - i = k + 1 := ⟨t - i - 1, by omega⟩
      rw [hk, List.getElem?_cons_succ]
      rw [show t - (i + 1) = k by omega] at ih
      exact ih.2

theorem enter {f : FuncId} {fn : Func} {c : Code} {vs : List Value} {K : Value → World → Prop} (hf : P.funcs[f]? = some fn) (hb : fn.body = some c) (hn : fn.ntmps = n) (hnm : (fn.name == "runtime.NumGoroutine") = false)
    (hl : Nat.ble vs.length n = true) (h : WC P n c (fin P fn.results.toList K) (envOf 0 vs) w) : Ret P f vs w K := by
  have hl' : vs.length ≤ n := by simpa using hl
  refine ⟨⟨fn, hf, hnm, by simp [hb]⟩, calls_of_wp hf hb ?_⟩
  refine wp_mono (h _ ⟨rfl, by simp [hn]; omega, fun t v ht => ?_⟩) fun e a' w' hq => ?_
  · have := envOf_get vs 0 t v ht
    simp only [Nat.sub_zero] at this
    rw [Array.getElem?_append_left (by have := (List.getElem?_eq_some_iff.1 this.2).1; simpa using this)]
    simpa using this.2
  · obtain ⟨env', ha', he, vs', hr, hk⟩ := hq
    have h1 := run_results ha' hr
    rcases he with rfl | rfl
    · exact ⟨ha'.df, _, h1, _, rfl, hk⟩
    · exact ⟨ha'.df, _, h1, _, rfl, hk⟩

def evs (env : Env) : List Operand → Option (List Value)
  | [] => some []
  | x :: r => match ev env x, evs env r with
    | some v, some vs => some (v :: vs)
    | _, _ => none

theorem Has.evs {a : Act} (ha : Has n a env) : ∀ (l : List Operand) (vs : List Value), evs env l = some vs → l.map a.eval = vs
  | [], vs, h => by simp only [Go.Proofs.YtjbonmmmcnpjiaaGreatDoor.evs, Option.some.injEq] at h; simp [← h]
  | x :: r, vs, h => by
    simp only [Go.Proofs.YtjbonmmmcnpjiaaGreatDoor.evs] at h
    split at h
    · rename_i v vs' h1 h2
      simp only [Option.some.injEq] at h
      rw [← h, List.map_cons, ha.ev h1, Has.evs ha r vs' h2]
    · cases h

variable {ops : Array Oper} {rest : List Oper} {Q : Post}

theorem w_call {d : Nat} {f : FuncId} {args : List Operand} {ats : Array TypeId} {vs : List Value} {K : Value → World → Prop} (hd : Nat.blt d n = true) (hv : evs env args = some vs) (hc : Ret P f vs w K)
    (h : ∀ v w', K v w' → WL P n ops rest Q ((d, v) :: env) w') : WL P n ops (⟨some d, .call { callee := .value (.func f), args := args.toArray, argTypes := ats }, ty, pos, af, none⟩ :: rest) Q env w := fun a ha =>
  wpList_plain rfl fun K' hK => by
    obtain ⟨⟨fn, hf, hnm, hb⟩, hcalls⟩ := hc
    have h1 : (execOp a.eval ⟨some d, .call { callee := .value (.func f), args := args.toArray, argTypes := ats }, ty, pos, af, none⟩).run P w = .ok (.enter f vs.toArray) w := by
      simp only [execOp, resolve, Act.eval, Deferred.ofValue, invoke, callFunc, Sem.run_bind, Sem.run_pure, Result.andThen_ok, run_program, hf, hnm, hb, List.map_toArray, ha.evs _ _ hv]
      simp
    unfold Oper.wp
    rw [h1]
    exact hcalls.mono fun e w' ⟨v, he, hk⟩ => by subst he; exact hK _ _ (h v w' hk _ (ha.put hd v))

theorem w_callg {d : Nat} {f : FuncId} {args : List Operand} {ats : Array TypeId} {vs : List Value} {K : Value → World → Prop} {j : Nat} {b : Bool} (hg : gd ops env j = some (.bool b)) (hd : Nat.blt d n = true) (hv : evs env args = some vs) (hc : Ret P f vs w K)
    (h : ∀ v w', K v w' → WL P n ops rest Q ((d, v) :: env) w') : WL P n ops (⟨some d, .call { callee := .value (.func f), args := args.toArray, argTypes := ats }, ty, pos, af, some (j, b)⟩ :: rest) Q env w := fun a ha => by
  unfold wpList
  rw [if_pos (by simp [Region.wanted, yielded_of ha hg])]
  refine .inl ?_
  obtain ⟨⟨fn, hf, hnm, hb⟩, hcalls⟩ := hc
  have h1 : (execOp a.eval ⟨some d, .call { callee := .value (.func f), args := args.toArray, argTypes := ats }, ty, pos, af, some (j, b)⟩).run P w = .ok (.enter f vs.toArray) w := by
    simp only [execOp, resolve, Act.eval, Deferred.ofValue, invoke, callFunc, Sem.run_bind, Sem.run_pure, Result.andThen_ok, run_program, hf, hnm, hb, List.map_toArray, ha.evs _ _ hv]
    simp
  unfold Oper.wp
  rw [h1]
  exact hcalls.mono fun e w' ⟨v, he, hk⟩ => by subst he; exact h v w' hk _ (ha.put hd v)

end
end Go.Proofs.YtjbonmmmcnpjiaaGreatDoor
namespace Go.Proofs.YtjbonmmmcnpjiaaGreatDoor
open Go.RowKit

section
variable {P : Program} {ops : Array Oper} {QA : Act → World → Prop}

def never : Exit → Act → World → Prop := fun _ _ _ => False

/-- Operation i in state 'a', and what follows; old blocks stay. -/
def opR (P : Program) (ops : Array Oper) (z : Bool) (i : Nat) (K : Act → World → Prop) (a : Act) (w : World) : Prop :=
  match ops[i]? with
  | none => False
  | some o => if Region.wanted o (yielded ops a.tmps) then o.wp P a w (fun a' w' => (z = true ∨ Rel w w') ∧ ∃ v, a' = a.put o.dst v ∧ K a' w') never else K (a.put o.dst undef) w

/-- Operation j comes ahead of operation i, by so many steps at most. -/
def aheadB (ops : Array Oper) : Nat → Nat → Nat → Bool
  | 0, _, _ => false
  | n + 1, i, j =>
    match ops[i]? with
    | none => false
    | some o => o.after.any fun e => Region.binds .any e && (Nat.beq e.on j || aheadB ops n e.on j)

/-- An operation that looks at its operand alone. -/
def isMv (o : Oper) : Bool := match o.op with
  | .move _ => true
  | _ => false
def mvB (ops : Array Oper) (j : Nat) : Bool := match ops[j]? with
  | some o => isMv o
  | none => false

/-- All operations that are listed come ahead of this one, but for those that look at no memory. -/
def allB (ops : Array Oper) (listed : Array Bool) (i : Nat) : Bool := (List.range ops.size).all fun j => !(listed.getD j false) || (mvB ops j || aheadB ops ops.size i j)

theorem allB_less {listed : Array Bool} {i j : Nat} (h : allB ops (listed.setIfInBounds i true) j = true) : allB ops listed j = true := by
  unfold allB at h ⊢
  refine List.all_eq_true.2 fun q hq => ?_
  have h1 := List.all_eq_true.1 h q hq
  by_cases hiq : i = q
  · subst hiq
    rcases Nat.lt_or_ge i listed.size with h' | h'
    · simp [h'] at h1; simp [h1]
    · simp [Array.getElem?_eq_none h']
  · rw [getD_set_ne false hiq] at h1; exact h1

/-- What is listed has all listed that comes ahead of it. -/
def Down (ops : Array Oper) (listed : Array Bool) : Prop := ∀ i o, listed.getD i false = true → ops[i]? = some o → ∀ e ∈ o.after, Region.binds .any e = true → listed.getD e.on false = true

theorem aheadB_listed {listed : Array Bool} (hd : Down ops listed) : ∀ {n i j : Nat} {o : Oper}, aheadB ops n i j = true → ops[i]? = some o → (∀ e ∈ o.after, Region.binds .any e = true → listed.getD e.on false = true) → listed.getD j false = true
  | 0, _, _, _, h, _, _ => by cases h
  | n + 1, i, j, o, h, hi, ha => by
    unfold aheadB at h
    simp only [hi] at h
    rw [Array.any_eq_true'] at h
    obtain ⟨e, he, h2⟩ := h
    simp only [Bool.and_eq_true, Bool.or_eq_true] at h2
    have h3 := ha e he h2.1
    rcases h2.2 with h4 | h4
    · rw [Nat.eq_of_beq_eq_true h4] at h3; exact h3
    · cases n with
      | zero => cases h4
      | succ n =>
        cases ho : ops[e.on]? with
        | none => unfold aheadB at h4; simp [ho] at h4
        | some o' => exact aheadB_listed hd h4 ho (hd _ _ h3 ho)

theorem allB_spec {i j : Nat} {o : Oper} {listed listed' : Array Bool} (hd : Down ops listed) (h : allB ops listed' i = true) (hi : ops[i]? = some o) (hj : j < ops.size) (hl : listed'.getD j false = true) (ha : ∀ e ∈ o.after, Region.binds .any e = true → listed.getD e.on false = true) : mvB ops j = true ∨ listed.getD j false = true := by
  unfold allB at h
  have h1 := List.all_eq_true.1 h j (List.mem_range.2 hj)
  rw [hl] at h1
  simp only [Bool.not_true, Bool.false_or, Bool.or_eq_true] at h1
  exact h1.imp id fun h1 => aheadB_listed hd h1 hi ha

theorem Down.set {listed : Array Bool} (hd : Down ops listed) {j : Nat} (hj : j ∈ Region.ready .any ops listed) : Down ops (listed.setIfInBounds j true) := fun i o hl hi e he hb => by
  have up : ∀ q, listed.getD q false = true → (listed.setIfInBounds j true).getD q false = true := fun q hq => by
    by_cases hjq : j = q
    · subst hjq
      have hlt : j < listed.size := by
        rcases Nat.lt_or_ge j listed.size with h' | h'
        · exact h'
        · simp [Array.getElem?_eq_none h'] at hq
      simp [hlt]
    · rw [getD_set_ne false hjq]; exact hq
  by_cases hji : j = i
  · subst hji
    obtain ⟨_, oj, hoj, hall⟩ := mem_ready.1 hj
    rw [hi] at hoj
    obtain rfl : o = oj := by simpa using hoj
    exact up _ (hall e he hb)
  · rw [getD_set_ne false hji] at hl
    exact up _ (hd i o hl hi e he hb)

theorem Down.init (n : Nat) : Down ops (Array.replicate n false) := fun i o hl => by
  rcases Nat.lt_or_ge i n with h' | h'
  · simp [h'] at hl
  · simp [h'] at hl

def wpR (P : Program) (ops : Array Oper) (QA : Act → World → Prop) : Nat → Array Bool → Act → World → Prop
  | 0, listed, a, w => Region.ready .any ops listed = [] ∧ ∀ w1, Rel w w1 → QA a w1
  | k + 1, listed, a, w => (Region.ready .any ops listed = [] → ∀ w1, Rel w w1 → QA a w1) ∧
      ∀ i ∈ Region.ready .any ops listed, ∀ w1, Rel w w1 → opR P ops (allB ops listed i) i (wpR P ops QA k (listed.setIfInBounds i true)) a w1

theorem wpR_rel : ∀ {k : Nat} {listed : Array Bool} {a : Act} {w w' : World}, wpR P ops QA k listed a w → Rel w w' → wpR P ops QA k listed a w'
  | 0, _, _, _, _, h, hr => ⟨h.1, fun w1 h1 => h.2 w1 (hr.trans h1)⟩
  | _ + 1, _, _, _, _, h, hr => ⟨fun h0 w1 h1 => h.1 h0 w1 (hr.trans h1), fun i hi w1 h1 => h.2 i hi w1 (hr.trans h1)⟩

theorem wp_weak {o : Oper} {a : Act} {w : World} {K K' : Act → World → Prop} {Q : Exit → Act → World → Prop} (h : ∀ a w, K a w → K' a w) (hh : o.wp P a w K never) : o.wp P a w K' Q := by
  unfold Oper.wp at *
  generalize (execOp a.eval o).run P w = r at *
  cases r with
  | ok m w' =>
    cases m <;> simp only [Oper.upon] at hh ⊢ <;>
      first
        | exact h _ _ hh
        | exact Calls.mono hh (fun e w'' he => by
            cases e with
            | returned v => exact h _ _ he
            | panicked c => exact (he : False).elim
            | outgrown => obtain ⟨_, _, he⟩ := he; exact (he : False).elim)
        | exact Rows.mono hh (fun _ _ he => h _ _ he)
  | halt x w' => cases x <;> simp only [Oper.upon] at hh ⊢ <;> exact (hh : False).elim

theorem wpAny_of_wpR {Q : Exit → Act → World → Prop} (hQ : ∀ a w, QA a w → Q .normal a w) : ∀ (k : Nat) (listed : Array Bool) (a : Act) (w : World), wpR P ops QA k listed a w → wpAny P .any ops Q k listed a w
  | 0, _, _, w, h => ⟨h.1, hQ _ _ (h.2 w (Rel.refl w))⟩
  | k + 1, listed, a, w, h => ⟨fun h0 => hQ _ _ (h.1 h0 w (Rel.refl w)), fun i hi => by
      have h1 := h.2 i hi w (Rel.refl w)
      unfold opR at h1
      unfold wpOp
      split
      · rename_i ho; simp only [ho] at h1
      · rename_i o ho
        simp only [ho] at h1
        split
        · rename_i hw
          simp only [hw, if_true] at h1
          exact .inl (wp_weak (fun _ _ ⟨_, _, _, h3⟩ => wpAny_of_wpR hQ k _ _ _ h3) h1)
        · rename_i hw; simp only [hw] at h1; exact wpAny_of_wpR hQ k _ _ _ h1⟩

/-- One value in every later world. -/
def quietR (P : Program) (o : Oper) (a : Act) (w : World) (v : Value) : Prop := ∀ w1, Rel w w1 → o.wp P a w1 (fun a' w' => Rel w1 w' ∧ a' = a.put o.dst v) never

def yieldsR (P : Program) (ops : Array Oper) (o : Oper) (a : Act) (w : World) (v : Value) : Prop :=
  (Region.wanted o (yielded ops a.tmps) = true ∧ quietR P o a w v) ∨ (Region.wanted o (yielded ops a.tmps) = false ∧ v = undef)

/-- Another operation's value laid before or behind. -/
theorem wp_put {o : Oper} {a : Act} {w : World} {x : Option Tmp} {v : Value} {K : Act → World → Prop} {R : World → Prop} (hs : ∀ cs b, o.op ≠ .select cs b) (h1 : ∀ d, x = some d → d ∉ o.looksAt ops)
    (h : o.wp P (a.put x v) w (fun a' w' => R w' ∧ ∃ u, a' = (a.put x v).put o.dst u ∧ K a' w') never) :
    o.wp P a w (fun a' w' => R w' ∧ ∃ u, a' = a.put o.dst u ∧ K ((a.put x v).put o.dst u) w') never := by
  unfold Oper.wp at *
  rw [execOp_put o hs a x v h1] at h
  generalize (execOp a.eval o).run P w = r at *
  cases r with
  | ok m w' =>
    cases m <;> simp only [Oper.upon] at h ⊢
    case value u => obtain ⟨h2, _, _, h4⟩ := h; exact ⟨h2, u, rfl, h4⟩
    case skip => obtain ⟨h2, _, _, h4⟩ := h; exact ⟨h2, undef, rfl, h4⟩
    case defer dd =>
      obtain ⟨h2, u', h3, h4⟩ := h
      have := congrArg (fun b : Act => b.defers.length) h3
      have hp : ∀ (b : Act) (y : Option Tmp) (u : Value), (b.put y u).defers = b.defers := fun b y u => by cases y <;> rfl
      simp [hp] at this
    case enter f args =>
      refine Calls.mono h fun e w'' he => ?_
      cases e with
      | returned u => obtain ⟨h2, _, _, h4⟩ := he; exact ⟨h2, u, rfl, h4⟩
      | panicked c => exact he
      | outgrown => exact he
    case row row args => exact Rows.mono h fun u _ ⟨h2, _, _, h4⟩ => ⟨h2, u, rfl, h4⟩
  | halt y w' => cases y <;> simp only [Oper.upon] at h ⊢ <;> exact h

theorem yieldsR_opR {z : Bool} {i : Nat} {o : Oper} {a : Act} {w w1 : World} {v : Value} {K : Act → World → Prop} (hi : ops[i]? = some o) (hy : yieldsR P ops o a w v) (hr : Rel w w1) (h : ∀ w', Rel w1 w' → K (a.put o.dst v) w') : opR P ops z i K a w1 := by
  unfold opR
  simp only [hi]
  rcases hy with ⟨hw, hq⟩ | ⟨hw, rfl⟩
  · simp only [hw, if_true]
    exact wp_weak (fun a' w' ⟨h1, h2⟩ => ⟨.inr h1, v, h2, h2 ▸ h w' h1⟩) (hq w1 hr)
  · simp only [hw, Bool.false_eq_true, if_false]
    exact h w1 (Rel.refl w1)

theorem quietR_put {o : Oper} {a : Act} {w w' : World} {x : Option Tmp} {u v : Value} (hs : ∀ cs b, o.op ≠ .select cs b) (h1 : ∀ d, x = some d → d ∉ o.looksAt ops) (hc : ∀ d, x = some d → o.dst ≠ some d)
    (h : quietR P o a w v) (hr : Rel w w') : quietR P o (a.put x u) w' v := fun w1 hw1 => by
  have h2 := h w1 (hr.trans hw1)
  unfold Oper.wp at *
  rw [execOp_put o hs a x u h1]
  generalize (execOp a.eval o).run P w1 = r at *
  have same : ∀ u', a.put o.dst u' = a.put o.dst v → (a.put x u).put o.dst u' = (a.put x u).put o.dst v := fun u' he => by
    rw [Act.put_comm a u u' hc, Act.put_comm a u v hc, he]
  cases r with
  | ok m w2 =>
    cases m <;> simp only [Oper.upon] at h2 ⊢
    case value u' => exact ⟨h2.1, same u' h2.2⟩
    case skip => exact ⟨h2.1, same undef h2.2⟩
    case defer dd =>
      have := congrArg (fun b : Act => b.defers.length) h2.2
      have hp : ∀ (b : Act) (y : Option Tmp) (u : Value), (b.put y u).defers = b.defers := fun b y u => by cases y <;> rfl
      simp [hp] at this
    case enter f args =>
      refine Calls.mono h2 fun e w'' he => ?_
      cases e with
      | returned u' => exact ⟨he.1, same u' he.2⟩
      | panicked c => exact he
      | outgrown => exact he
    case row row args => exact Rows.mono h2 fun u' w'' he => ⟨he.1, same u' he.2⟩
  | halt y w2 => cases y <;> simp only [Oper.upon] at h2 ⊢ <;> exact h2

theorem quietR_mv {o : Oper} {a : Act} {w w' : World} {v : Value} (hm : isMv o = true) (h : quietR P o a w v) : quietR P o a w' v := fun w1 _ => by
  have h2 := h w (Rel.refl w)
  unfold isMv at hm
  split at hm
  · rename_i x hx
    unfold Oper.wp at *
    have hr : ∀ w, (execOp a.eval o).run P w = .ok (.value (a.eval x)) w := fun w => by
      obtain ⟨d, op, ty, pos, af, g⟩ := o
      simp only at hx
      subst hx
      simp [execOp]
    rw [hr] at h2 ⊢
    exact ⟨Rel.refl _, h2.2⟩
  · cases hm

theorem wpR_first {i : Nat} {o : Oper} {v : Value} (hi : ops[i]? = some o) (hsel : ∀ (j : Nat) (o : Oper) cs b, ops[j]? = some o → o.op ≠ .select cs b) :
    ∀ (k : Nat) (listed : Array Bool) (a : Act) (w : World), Down ops listed →
      (∀ j oj, ops[j]? = some oj → j ≠ i → listed.getD j true = false → (∀ e ∈ oj.after, Region.binds .any e = true → e.on ≠ i) → o.apart ops oj = true) →
      i ∈ Region.ready .any ops listed → yieldsR P ops o a w v →
      wpR P ops QA k (listed.setIfInBounds i true) (a.put o.dst v) w → wpR P ops QA (k + 1) listed a w := by
  intro k
  induction k with
  | zero =>
    intro listed a w _ _ hr hy H
    refine ⟨fun h => (by rw [h] at hr; cases hr), fun j hj w1 h1 => ?_⟩
    by_cases hji : j = i
    · subst hji; exact yieldsR_opR hi hy h1 fun w' hw' => wpR_rel H (h1.trans hw')
    · have := ready_mono hj hji
      rw [H.1] at this
      cases this
  | succ k ih =>
    intro listed a w hd hfree hr hy H
    refine ⟨fun h => (by rw [h] at hr; cases hr), fun j hj w1 h1 => ?_⟩
    by_cases hji : j = i
    · subst hji; exact yieldsR_opR hi hy h1 fun w' hw' => wpR_rel H (h1.trans hw')
    · have h2 := H.2 j (ready_mono hj hji) w1 h1
      obtain ⟨hjun, oj, hoj, hall⟩ := mem_ready.1 hj
      have hnot : ∀ e ∈ oj.after, Region.binds .any e = true → e.on ≠ i := fun e he hb heq => by
        have h1 := hall e he hb
        have h0 := (mem_ready.1 hr).1
        rw [heq] at h1
        rcases Nat.lt_or_ge i listed.size with h' | h'
        · simp [h'] at h0 h1; rw [h0] at h1; cases h1
        · simp [Array.getElem?_eq_none h'] at h1
      have hap := hfree j oj hoj hji hjun hnot
      have hnl : allB ops (listed.setIfInBounds i true) j = true → isMv o = true := fun hl => by
        have h9 := (mem_ready.1 hr).1
        rcases Nat.lt_or_ge i listed.size with h' | h'
        · rcases allB_spec hd hl hoj ((Array.getElem?_eq_some_iff.1 hi).1) (by simp [h']) hall with h8 | h8
          · unfold mvB at h8; simpa only [hi] using h8
          · simp [h'] at h8 h9; rw [h9] at h8; cases h8
        · simp [Array.getElem?_eq_none h'] at h9
      obtain ⟨p1, p2, p3⟩ := Oper.apart_spec hap
      have hfree' : ∀ m om, ops[m]? = some om → m ≠ i → (listed.setIfInBounds j true).getD m true = false →
          (∀ e ∈ om.after, Region.binds .any e = true → e.on ≠ i) → o.apart ops om = true := fun m om hm hmi hun hno => by
        refine hfree m om hm hmi ?_ hno
        by_cases hjm : j = m
        · subst hjm; exact hjun
        · rw [getD_set_ne true hjm] at hun; exact hun
      have hsi := fun cs b => hsel i o cs b hi
      have hsj := fun cs b => hsel j oj cs b hoj
      have keep : ∀ u w2, (isMv o = true ∨ Rel w1 w2) → yieldsR P ops o (a.put oj.dst u) w2 v := fun u w2 h3 => by
        unfold yieldsR at *
        rw [wanted_put o a oj.dst u p3]
        rcases hy with ⟨hw, hq⟩ | hy
        · rcases h3 with h3 | h3
          · exact .inl ⟨hw, quietR_mv h3 (quietR_put hsi p3 (fun d hd => fun hd' => p2 d hd' hd) hq (Rel.refl w))⟩
          · exact .inl ⟨hw, quietR_put hsi p3 (fun d hd => fun hd' => p2 d hd' hd) hq (h1.trans h3)⟩
        · exact .inr hy
      have step : ∀ u w2, (isMv o = true ∨ Rel w1 w2) → wpR P ops QA k ((listed.setIfInBounds i true).setIfInBounds j true) ((a.put o.dst v).put oj.dst u) w2 → wpR P ops QA (k + 1) (listed.setIfInBounds j true) (a.put oj.dst u) w2 := fun u w2 h3 h4 => by
        refine ih (listed.setIfInBounds j true) _ _ (hd.set hj) hfree' (ready_mono hr (Ne.symm hji)) (keep u w2 h3) ?_
        rw [Array.setIfInBounds_comm _ _ hji, ← Act.put_comm a v u p2]
        exact h4
      unfold opR at h2 ⊢
      simp only [hoj] at h2 ⊢
      rw [wanted_put oj a o.dst v p1] at h2
      split
      · rename_i hw
        simp only [hw, if_true] at h2
        exact wp_weak (fun a' w' ⟨h3, u, h4, h5⟩ => ⟨h3.imp allB_less id, u, h4, h4 ▸ step u w' (h3.imp hnl id) h5⟩) (wp_put (R := fun w' => allB ops (listed.setIfInBounds i true) j = true ∨ Rel w1 w') hsj p1 h2)
      · rename_i hw
        simp only [hw] at h2
        exact step undef w1 (.inr (Rel.refl w1)) h2

/-- The walk in a chosen order. 0: an operation that only looks, and may come at any time; 1: one that nothing else may overtake, and that changes nothing old; 2: one that nothing else may overtake, and that comes behind all that was listed. -/
def wpO (P : Program) (ops : Array Oper) (QA : Act → World → Prop) : List (Oper × Nat) → Act → World → Prop
  | [], a, w => ∀ w1, Rel w w1 → QA a w1
  | (o, 0) :: r, a, w => ∃ v, yieldsR P ops o a w v ∧ wpO P ops QA r (a.put o.dst v) w
  | (o, f + 1) :: r, a, w => (Region.wanted o (yielded ops a.tmps) = true ∧ ∀ w1, Rel w w1 → o.wp P a w1 (fun a' w' => (Nat.beq f 1 = true ∨ Rel w1 w') ∧ ∃ v, a' = a.put o.dst v ∧ wpO P ops QA r a' w') never) ∨
      (Region.wanted o (yielded ops a.tmps) = false ∧ ∀ w1, Rel w w1 → wpO P ops QA r (a.put o.dst undef) w1)

def ordB (ops : Array Oper) : List (Nat × Nat) → Array Bool → Bool
  | [], listed => (Region.ready .any ops listed).isEmpty
  | (k, f) :: r, listed => (match f with
    | 0 => (Region.ready .any ops listed).contains k && Region.free .any ops listed k
    | f + 1 => Region.ready .any ops listed == [k] && (!Nat.beq f 1 || allB ops listed k)) && ordB ops r (listed.setIfInBounds k true)

theorem wpR_of_wpO (hs : Region.noSelect ops = true) : ∀ (ks : List (Nat × Nat)) (l : List (Oper × Nat)) (listed : Array Bool) (a : Act) (w : World), Down ops listed →
    ks.map (fun k => (ops[k.1]?.map fun o => (o, k.2))) = l.map some → ordB ops ks listed = true → wpO P ops QA l a w → wpR P ops QA ks.length listed a w
  | [], [], _, _, _, _, _, hB, h => ⟨by simpa [ordB] using hB, h⟩
  | [], _ :: _, _, _, _, _, he, _, _ => by simp at he
  | _ :: _, [], _, _, _, _, he, _, _ => by simp at he
  | (k, f) :: ks, (o, f') :: l, listed, a, w, hd, he, hB, h => by
    simp only [List.map_cons, List.cons.injEq] at he
    obtain ⟨h0, he⟩ := he
    have ho : ops[k]? = some o ∧ f = f' := by
      cases hk : ops[k]? with
      | none => simp [hk] at h0
      | some o' => simp [hk] at h0; exact ⟨by rw [h0.1], h0.2⟩
    obtain ⟨ho, rfl⟩ := ho
    simp only [ordB, Bool.and_eq_true] at hB
    obtain ⟨hB1, hB2⟩ := hB
    cases f with
    | zero =>
      simp only [Bool.and_eq_true] at hB1
      obtain ⟨v, hy, hK⟩ := h
      have hrd : k ∈ Region.ready .any ops listed := by simpa using hB1.1
      exact wpR_first ho (Region.noSelect_spec hs) ks.length listed a w hd (Region.free_spec ho hB1.2) hrd hy (wpR_of_wpO hs ks l _ _ _ (hd.set hrd) he hB2 hK)
    | succ f =>
      simp only [Bool.and_eq_true] at hB1
      have hr : Region.ready .any ops listed = [k] := by simpa using hB1.1
      refine ⟨(fun h' => by rw [hr] at h'; cases h'), fun i hi w1 h1 => ?_⟩
      rw [hr] at hi
      have hik : i = k := by simpa using hi
      subst hik
      unfold opR
      rcases h with ⟨hw, hK⟩ | ⟨hw, hK⟩
      rotate_left
      · simp only [ho, hw, Bool.false_eq_true, if_false]
        exact wpR_of_wpO hs ks l _ _ _ (hd.set (by rw [hr]; simp)) he hB2 (hK w1 h1)
      simp only [ho, hw, if_true]
      refine wp_weak (fun _ _ ⟨h2, v, h3, h4⟩ => ⟨?_, v, h3, wpR_of_wpO hs ks l _ _ _ (hd.set (by rw [hr]; simp)) he hB2 h4⟩) (hK w1 h1)
      rcases h2 with h2 | h2
      · left
        have := hB1.2
        rw [h2] at this
        simpa using this
      · exact .inr h2

end

section
variable {P : Program} {n : Nat} {ops : Array Oper} {Q : Post} {env : Env} {w : World} {r : List (Oper × Nat)} {ty : TypeId} {pos : String} {af : Array Edge}

def WO (P : Program) (n : Nat) (ops : Array Oper) (Q : Post) (l : List (Oper × Nat)) (env : Env) (w : World) : Prop :=
  ∀ a, Has n a env → wpO P ops (fun a w => lift n Q .normal a w) l a w

/-- The operations in a chosen order. -/
def ordOps (l : List Oper) : List (Nat × Nat) → List (Oper × Nat)
  | [] => []
  | k :: ks => match l[k.1]? with
    | some o => (o, k.2) :: ordOps l ks
    | none => ordOps l ks

theorem ordOps_eq (l : List Oper) : ∀ ks : List (Nat × Nat), (ks.all fun k => Nat.blt k.1 l.length) = true → ks.map (fun k => (l.toArray[k.1]?.map fun o => (o, k.2))) = (ordOps l ks).map some
  | [], _ => rfl
  | k :: ks, h => by
    simp only [List.all_cons, Bool.and_eq_true] at h
    have hk : k.1 < l.length := by simpa using h.1
    simp only [List.map_cons, ordOps, List.getElem?_toArray, List.getElem?_eq_getElem hk, Option.map_some]
    rw [← ordOps_eq l ks h.2]
    simp

theorem wc_draw {id : Nat} {l : List Oper} (ks : List (Nat × Nat)) (hm : P.follows .mixedOrders = true) (hs : Region.noSelect l.toArray = true) (hl : Nat.beq ks.length l.length = true)
    (hB : ordB l.toArray ks (Array.replicate l.length false) = true) (he : (ks.all fun k => Nat.blt k.1 l.length) = true) (h : WO P n l.toArray Q (ordOps l ks) env w) : WC P n (.region id l.toArray true) Q env w := fun a ha => by
  refine wp_region_any hm (wpAny_of_wpR (QA := fun a w => lift n Q .normal a w) (fun _ _ h => h) _ _ _ _ ?_)
  have hl' : ks.length = l.length := Nat.eq_of_beq_eq_true hl
  have h1 := wpR_of_wpO hs ks (ordOps l ks) (Array.replicate l.length false) a w (Down.init _) (ordOps_eq l ks he) hB (h a ha)
  rw [hl'] at h1
  simpa using wpR_rel h1 (Rel.drew (Rel.refl w))

theorem o_nil (h : ∀ w1, Rel w w1 → Q .normal env w1) : WO P n ops Q [] env w := fun _ ha w1 h1 => ⟨env, ha, h w1 h1⟩

theorem ov {d : Nat} {op : Op} {v : Value} (hd : Nat.blt d n = true) (hr : ∀ w1, Rel w w1 → Runs P n env w1 ⟨some d, op, ty, pos, af, none⟩ v w1)
    (h : WO P n ops Q r ((d, v) :: env) w) : WO P n ops Q ((⟨some d, op, ty, pos, af, none⟩, 0) :: r) env w := fun a ha =>
  ⟨v, .inl ⟨rfl, fun w1 h1 => by unfold Oper.wp; rw [hr w1 h1 a ha]; exact ⟨Rel.refl w1, rfl⟩⟩, h _ (ha.put hd v)⟩

theorem ovg {d : Nat} {op : Op} {v : Value} {j : Nat} {b : Bool} (hg : gd ops env j = some (.bool b)) (hd : Nat.blt d n = true) (hr : ∀ w1, Rel w w1 → Runs P n env w1 ⟨some d, op, ty, pos, af, some (j, b)⟩ v w1)
    (h : WO P n ops Q r ((d, v) :: env) w) : WO P n ops Q ((⟨some d, op, ty, pos, af, some (j, b)⟩, 0) :: r) env w := fun a ha =>
  ⟨v, .inl ⟨by simp [Region.wanted, yielded_of ha hg], fun w1 h1 => by unfold Oper.wp; rw [hr w1 h1 a ha]; exact ⟨Rel.refl w1, rfl⟩⟩, h _ (ha.put hd v)⟩

theorem call_wp {d : Nat} {f : FuncId} {args : List Operand} {ats : Array TypeId} {vs : List Value} {K : Value → World → Prop} {gu : Option (Nat × Bool)} {a : Act} (ha : Has n a env) (hv : evs env args = some vs) (hc : Ret P f vs w K)
    {N : Act → World → Prop} (h : ∀ v w', K v w' → N (a.put (some d) v) w') : Oper.wp P ⟨some d, .call { callee := .value (.func f), args := args.toArray, argTypes := ats }, ty, pos, af, gu⟩ a w N never := by
  obtain ⟨⟨fn, hf, hnm, hb⟩, hcalls⟩ := hc
  have h1 : (execOp a.eval ⟨some d, .call { callee := .value (.func f), args := args.toArray, argTypes := ats }, ty, pos, af, gu⟩).run P w = .ok (.enter f vs.toArray) w := by
    simp only [execOp, resolve, Act.eval, Deferred.ofValue, invoke, callFunc, Sem.run_bind, Sem.run_pure, Result.andThen_ok, run_program, hf, hnm, hb, List.map_toArray, ha.evs _ _ hv]
    simp
  unfold Oper.wp
  rw [h1]
  exact hcalls.mono fun e w' ⟨v, he, hk⟩ => by subst he; exact h v w' hk

/-- A call whose result is one value, whatever has been laid in new memory meanwhile. -/
theorem oc {d : Nat} {f : FuncId} {args : List Operand} {ats : Array TypeId} {vs : List Value} {v : Value} (hd : Nat.blt d n = true) (hv : evs env args = some vs) (hc : ∀ w1, Rel w w1 → Ret P f vs w1 fun u w' => u = v ∧ Rel w1 w')
    (h : WO P n ops Q r ((d, v) :: env) w) : WO P n ops Q ((⟨some d, .call { callee := .value (.func f), args := args.toArray, argTypes := ats }, ty, pos, af, none⟩, 0) :: r) env w := fun a ha =>
  ⟨v, .inl ⟨rfl, fun w1 h1 => call_wp ha hv (hc w1 h1) fun u w' hk => ⟨hk.2, by rw [hk.1]⟩⟩, h _ (ha.put hd v)⟩

theorem ocg {d : Nat} {f : FuncId} {args : List Operand} {ats : Array TypeId} {vs : List Value} {v : Value} {j : Nat} {b : Bool} (hg : gd ops env j = some (.bool b)) (hd : Nat.blt d n = true) (hv : evs env args = some vs) (hc : ∀ w1, Rel w w1 → Ret P f vs w1 fun u w' => u = v ∧ Rel w1 w')
    (h : WO P n ops Q r ((d, v) :: env) w) : WO P n ops Q ((⟨some d, .call { callee := .value (.func f), args := args.toArray, argTypes := ats }, ty, pos, af, some (j, b)⟩, 0) :: r) env w := fun a ha =>
  ⟨v, .inl ⟨by simp [Region.wanted, yielded_of ha hg], fun w1 h1 => call_wp ha hv (hc w1 h1) fun u w' hk => ⟨hk.2, by rw [hk.1]⟩⟩, h _ (ha.put hd v)⟩

/-- A call that makes memory, at a place where nothing else may come up. -/
theorem o_forced {d : Nat} {f : FuncId} {args : List Operand} {ats : Array TypeId} {vs : List Value} {K : World → Value → World → Prop} (hd : Nat.blt d n = true) (hv : evs env args = some vs) (hc : ∀ w1, Rel w w1 → Ret P f vs w1 (K w1))
    (h : ∀ w1, Rel w w1 → ∀ v w', K w1 v w' → Rel w1 w' ∧ WO P n ops Q r ((d, v) :: env) w') : WO P n ops Q ((⟨some d, .call { callee := .value (.func f), args := args.toArray, argTypes := ats }, ty, pos, af, none⟩, 1) :: r) env w := fun _ ha =>
  .inl ⟨rfl, fun w1 h1 => call_wp ha hv (hc w1 h1) fun v w' hk => ⟨.inr (h w1 h1 v w' hk).1, v, rfl, (h w1 h1 v w' hk).2 _ (ha.put hd v)⟩⟩

/-- An operation runs, and what it yields. -/
def Ex (P : Program) (n : Nat) (env : Env) (w : World) (o : Oper) (K : Value → World → Prop) : Prop := ∃ v w', Runs P n env w o v w' ∧ K v w'
def ExU (P : Program) (n : Nat) (env : Env) (w : World) (o : Oper) (K : World → Prop) : Prop := ∃ w', RunsU P n env w o w' ∧ K w'

theorem w_ex {d : Nat} {op : Op} {l : List Oper} (hd : Nat.blt d n = true) (h : Ex P n env w ⟨some d, op, ty, pos, af, none⟩ fun v w' => WL P n ops l Q ((d, v) :: env) w') : WL P n ops (⟨some d, op, ty, pos, af, none⟩ :: l) Q env w := by
  obtain ⟨v, w', hr, hk⟩ := h
  exact wv hd hr hk
theorem w_exu {op : Op} {l : List Oper} (h : ExU P n env w ⟨none, op, ty, pos, af, none⟩ fun w' => WL P n ops l Q env w') : WL P n ops (⟨none, op, ty, pos, af, none⟩ :: l) Q env w := by
  obtain ⟨w', hr, hk⟩ := h
  exact wu hr hk

/-- An operation that writes, behind all that was listed. -/
theorem o_ex {d : Nat} {op : Op} (hd : Nat.blt d n = true) (h : ∀ w1, Rel w w1 → Ex P n env w1 ⟨some d, op, ty, pos, af, none⟩ fun v w' => WO P n ops Q r ((d, v) :: env) w') : WO P n ops Q ((⟨some d, op, ty, pos, af, none⟩, 2) :: r) env w := fun a ha =>
  .inl ⟨rfl, fun w1 h1 => by
    obtain ⟨v, w', hr, hk⟩ := h w1 h1
    unfold Oper.wp
    rw [hr a ha]
    exact ⟨.inl rfl, v, rfl, hk _ (ha.put hd v)⟩⟩
theorem o_exu {op : Op} (h : ∀ w1, Rel w w1 → ExU P n env w1 ⟨none, op, ty, pos, af, none⟩ fun w' => WO P n ops Q r env w') : WO P n ops Q ((⟨none, op, ty, pos, af, none⟩, 2) :: r) env w := fun a ha =>
  .inl ⟨rfl, fun w1 h1 => by
    obtain ⟨w', hr, hk⟩ := h w1 h1
    unfold Oper.wp
    rw [hr a ha]
    exact ⟨.inl rfl, undef, rfl, hk a ha⟩⟩

/-- An operation that makes new memory, where nothing else may come up. -/
theorem o_ex1 {d : Nat} {op : Op} (hd : Nat.blt d n = true) (h : ∀ w1, Rel w w1 → Ex P n env w1 ⟨some d, op, ty, pos, af, none⟩ fun v w' => Rel w1 w' ∧ WO P n ops Q r ((d, v) :: env) w') : WO P n ops Q ((⟨some d, op, ty, pos, af, none⟩, 1) :: r) env w := fun a ha =>
  .inl ⟨rfl, fun w1 h1 => by
    obtain ⟨v, w', hr, hk, hk2⟩ := h w1 h1
    unfold Oper.wp
    rw [hr a ha]
    exact ⟨.inr hk, v, rfl, hk2 _ (ha.put hd v)⟩⟩

/-- A call, behind all that was listed. -/
theorem o_call {d : Nat} {f : FuncId} {args : List Operand} {ats : Array TypeId} {vs : List Value} {K : World → Value → World → Prop} (hd : Nat.blt d n = true) (hv : evs env args = some vs) (hc : ∀ w1, Rel w w1 → Ret P f vs w1 (K w1))
    (h : ∀ w1, Rel w w1 → ∀ v w', K w1 v w' → WO P n ops Q r ((d, v) :: env) w') : WO P n ops Q ((⟨some d, .call { callee := .value (.func f), args := args.toArray, argTypes := ats }, ty, pos, af, none⟩, 2) :: r) env w := fun _ ha =>
  .inl ⟨rfl, fun w1 h1 => call_wp ha hv (hc w1 h1) fun v w' hk => ⟨.inl rfl, v, rfl, h w1 h1 v w' hk _ (ha.put hd v)⟩⟩

end
end Go.Proofs.YtjbonmmmcnpjiaaGreatDoor
namespace Go.Proofs.YtjbonmmmcnpjiaaGreatDoor
open Go.RowKit

section
variable {P : Program} {n : Nat} {ops : Array Oper} {l rest : List Oper} {Q : Post} {env : Env} {w w' : World} {r : List (Oper × Nat)} {ty : TypeId} {pos : String} {af : Array Edge}

theorem Runs.lose {o : Oper} {v : Value} {env0 : Env} (h : Runs P n env w o v w') (hc : Cov env0 env) : Runs P n env0 w o v w' := fun a ha => h a (ha.lose hc.sub)

def isB (b : Bool) : Value → Bool
  | .bool c => c == b
  | _ => false

theorem isB_no {b c : Bool} (h : c = !b) : isB b (.bool c) = false := by subst h; cases b <;> rfl
theorem wanted_no {o : Oper} {a : Act} (ha : Has n a env) {j : Nat} {b : Bool} {u : Value} (hg : gd ops env j = some u) (hc : isB b u = false) (ho : o.guard = some (j, b)) : Region.wanted o (yielded ops a.tmps) = false := by
  have h1 : yielded ops a.tmps j ≠ some b := by
    unfold gd at hg
    unfold yielded
    cases hq : ops[j]? with
    | none => simp [hq] at hg
    | some p =>
      simp only [hq, Option.bind_some] at hg ⊢
      cases hd : p.dst with
      | none => simp [hd] at hg
      | some d =>
        simp only [hd, Option.bind_some] at hg ⊢
        rw [ha.at' d _ hg]
        cases u <;> first | (simp; done) | (simpa [isB] using hc)
  simpa [Region.wanted, ho] using h1

/-- A guarded operation that is carried out. -/
theorem gv {d : Nat} {op : Op} {j : Nat} {b c : Bool} {v : Value} (hg : gd ops env j = some (.bool c)) (hc : c = b) (hd : Nat.blt d n = true)
    (hr : Runs P n env w ⟨some d, op, ty, pos, af, some (j, b)⟩ v w')
    (h : WL P n ops rest Q ((d, v) :: env) w') : WL P n ops (⟨some d, op, ty, pos, af, some (j, b)⟩ :: rest) Q env w := wvg (by rw [hg, hc]) hd hr h

/-- A guarded operation that is passed over. -/
theorem gs {d : Nat} {op : Op} {j : Nat} {b : Bool} {u : Value} (hg : gd ops env j = some u) (hc : isB b u = false) (hd : Nat.blt d n = true)
    (h : WL P n ops rest Q ((d, undef) :: env) w) : WL P n ops (⟨some d, op, ty, pos, af, some (j, b)⟩ :: rest) Q env w := fun a ha => by
  unfold wpList
  rw [if_neg (by rw [wanted_no ha hg hc rfl]; exact Bool.false_ne_true)]
  exact h _ (ha.put hd undef)

theorem gc {d : Nat} {f : FuncId} {args : List Operand} {ats : Array TypeId} {vs : List Value} {K : Value → World → Prop} {j : Nat} {b c : Bool} (hg : gd ops env j = some (.bool c)) (hb : c = b) (hd : Nat.blt d n = true) (hv : evs env args = some vs) (hc : Ret P f vs w K)
    (h : ∀ v w', K v w' → WL P n ops rest Q ((d, v) :: env) w') : WL P n ops (⟨some d, .call { callee := .value (.func f), args := args.toArray, argTypes := ats }, ty, pos, af, some (j, b)⟩ :: rest) Q env w := w_callg (by rw [hg, hb]) hd hv hc h

theorem ogv {d : Nat} {op : Op} {v : Value} {j : Nat} {b c : Bool} (hg : gd ops env j = some (.bool c)) (hc : c = b) (hd : Nat.blt d n = true) (hr : ∀ w1, Rel w w1 → Runs P n env w1 ⟨some d, op, ty, pos, af, some (j, b)⟩ v w1)
    (h : WO P n ops Q r ((d, v) :: env) w) : WO P n ops Q ((⟨some d, op, ty, pos, af, some (j, b)⟩, 0) :: r) env w := ovg (by rw [hg, hc]) hd hr h

theorem ogs {d : Nat} {op : Op} {j : Nat} {b : Bool} {u : Value} (hg : gd ops env j = some u) (hc : isB b u = false) (hd : Nat.blt d n = true)
    (h : WO P n ops Q r ((d, undef) :: env) w) : WO P n ops Q ((⟨some d, op, ty, pos, af, some (j, b)⟩, 0) :: r) env w := fun _ ha =>
  ⟨undef, .inr ⟨wanted_no ha hg hc rfl, rfl⟩, h _ (ha.put hd undef)⟩

theorem og_forced {d : Nat} {f : FuncId} {args : List Operand} {ats : Array TypeId} {vs : List Value} {K : World → Value → World → Prop} {j : Nat} {b c : Bool} (hg : gd ops env j = some (.bool c)) (hb : c = b) (hd : Nat.blt d n = true) (hv : evs env args = some vs) (hc : ∀ w1, Rel w w1 → Ret P f vs w1 (K w1))
    (h : ∀ w1, Rel w w1 → ∀ v w', K w1 v w' → Rel w1 w' ∧ WO P n ops Q r ((d, v) :: env) w') : WO P n ops Q ((⟨some d, .call { callee := .value (.func f), args := args.toArray, argTypes := ats }, ty, pos, af, some (j, b)⟩, 1) :: r) env w := fun _ ha =>
  .inl ⟨by subst hb; simp [Region.wanted, yielded_of ha hg], fun w1 h1 => call_wp ha hv (hc w1 h1) fun v w' hk => ⟨.inr (h w1 h1 v w' hk).1, v, rfl, (h w1 h1 v w' hk).2 _ (ha.put hd v)⟩⟩

theorem ogs1 {d f : Nat} {op : Op} {j : Nat} {b : Bool} {u : Value} (hg : gd ops env j = some u) (hc : isB b u = false) (hd : Nat.blt d n = true)
    (h : ∀ w1, Rel w w1 → WO P n ops Q r ((d, undef) :: env) w1) : WO P n ops Q ((⟨some d, op, ty, pos, af, some (j, b)⟩, f + 1) :: r) env w := fun _ ha =>
  .inr ⟨wanted_no ha hg hc rfl, fun w1 h1 => h w1 h1 _ (ha.put hd undef)⟩

theorem ogc {d : Nat} {f : FuncId} {args : List Operand} {ats : Array TypeId} {vs : List Value} {v : Value} {j : Nat} {b c : Bool} (hg : gd ops env j = some (.bool c)) (hb : c = b) (hd : Nat.blt d n = true) (hv : evs env args = some vs) (hc : ∀ w1, Rel w w1 → Ret P f vs w1 fun u w' => u = v ∧ Rel w1 w')
    (h : WO P n ops Q r ((d, v) :: env) w) : WO P n ops Q ((⟨some d, .call { callee := .value (.func f), args := args.toArray, argTypes := ats }, ty, pos, af, some (j, b)⟩, 0) :: r) env w := ocg (by rw [hg, hb]) hd hv hc h

theorem p_t {d : Option Tmp} {g : Option (Nat × Bool)} {c x y : Operand} {v : Value} {t : Bool} (hc : ev env c = some (.bool t)) (ht : t = true) (hx : ev env x = some v) : Runs P n env w ⟨d, .pick c x y, ty, pos, af, g⟩ v w := r_pick_t (by rw [hc, ht]) hx
theorem p_f {d : Option Tmp} {g : Option (Nat × Bool)} {c x y : Operand} {v : Value} {t : Bool} (hc : ev env c = some (.bool t)) (ht : t = false) (hy : ev env y = some v) : Runs P n env w ⟨d, .pick c x y, ty, pos, af, g⟩ v w := r_pick_f (by rw [hc, ht]) hy

/-- Some operations first, with what they leave. -/
theorem wl_mid (k : Nat) {α : Type} (E : α → Env) (Φ : α → World → Prop) (h1 : WL P n ops (l.take k) (fun e env w' => e = .normal ∧ ∃ x, Cov env (E x) ∧ Φ x w') env w) (h2 : ∀ x w', Φ x w' → WL P n ops (l.drop k) Q (E x) w') : WL P n ops l Q env w := by
  intro a ha
  have h3 := h1 a ha
  have key : ∀ (l : List Oper) (k : Nat) (a : Act) (w : World) (Q' : Exit → Act → World → Prop), (∀ a w, Q' .normal a w → wpList P ops (lift n Q) (l.drop k) a w) → (∀ e a w, Q' e a w → e = .normal) → wpList P ops Q' (l.take k) a w → wpList P ops (lift n Q) l a w := by
    intro l
    induction l with
    | nil => intro k a w Q' hN hE h; simp only [List.take_nil, wpList] at h; simpa [wpList] using hN a w h
    | cons o l ih =>
      intro k a w Q' hN hE h
      cases k with
      | zero => simp only [List.take_zero, wpList] at h; simpa using hN a w h
      | succ k =>
        simp only [List.take_succ_cons, List.drop_succ_cons] at h hN
        unfold wpList at h ⊢
        split
        · rename_i hw
          rw [if_pos hw] at h
          rcases h with h | ⟨_, a0, w0, h⟩
          · refine .inl ?_
            unfold Oper.wp at *
            generalize (execOp a.eval o).run P w = rr at *
            have hno : ¬ LetsOut Q' := fun ⟨_, _, hq⟩ => by cases hE _ _ _ hq
            cases rr with
            | ok m w' =>
              cases m <;> simp only [Oper.upon] at h ⊢ <;>
                first
                  | exact ih k _ _ Q' hN hE h
                  | exact Calls.mono h (fun e w'' he => by
                      cases e with
                      | returned v => exact ih k _ _ Q' hN hE he
                      | panicked c => cases hE _ _ _ he
                      | outgrown => exact (hno he).elim)
                  | exact Rows.mono h (fun _ _ he => ih k _ _ Q' hN hE he)
            | halt x w' => cases x <;> simp only [Oper.upon] at h ⊢ <;> first | exact h.elim | cases hE _ _ _ h
          · cases hE _ _ _ h
        · rename_i hw
          rw [if_neg hw] at h
          exact ih k _ _ Q' hN hE h
  refine key l k a w _ (fun a' w' hq => ?_) (fun e a' w' hq => ?_) h3
  · obtain ⟨env', ha', _, x, hc, hΦ⟩ := hq
    exact h2 x w' hΦ a' (ha'.lose hc.sub)
  · obtain ⟨env', ha', he, _⟩ := hq
    exact he

theorem mid_nil {α : Type} {E : α → Env} {Φ : α → World → Prop} (x : α) (hc : Cov env (E x)) (hΦ : Φ x w) : WL P n ops [] (fun e env w' => e = .normal ∧ ∃ x, Cov env (E x) ∧ Φ x w') env w := wl_nil ⟨rfl, x, hc, hΦ⟩

/-- The same in a region that draws: the world is one of the later ones. -/
theorem wo_mid (k : Nat) (E : Env) (hq : ((r.take k).all fun p => Nat.beq p.2 0) = true) (h1 : WO P n ops (fun e env _ => e = .normal ∧ Cov env E) (r.take k) env w) (h2 : WO P n ops Q (r.drop k) E w) : WO P n ops Q r env w := by
  intro a ha
  have h3 := h1 a ha
  have key : ∀ (l : List (Oper × Nat)) (k : Nat) (a : Act) (w w1 : World) (QA QB : Act → World → Prop), Rel w w1 → (∀ w2, Rel w w2 → ∀ a w3, QB a w3 → wpO P ops QA (l.drop k) a w2) → ((l.take k).all fun p => Nat.beq p.2 0) = true → wpO P ops QB (l.take k) a w1 → wpO P ops QA l a w1 := by
    intro l
    induction l with
    | nil => intro k a w w1 QA QB hr hN _ h; simp only [List.take_nil, List.drop_nil, wpO] at h hN ⊢; exact fun w2 h2 => hN w1 hr a w1 (h w1 (Rel.refl w1)) w2 h2
    | cons o l ih =>
      intro k a w w1 QA QB hr hN hq h
      cases k with
      | zero => simp only [List.take_zero, List.drop_zero, wpO] at h hN; exact hN w1 hr a w1 (h w1 (Rel.refl w1))
      | succ k =>
        simp only [List.take_succ_cons, List.drop_succ_cons] at h hN hq
        obtain ⟨o, f⟩ := o
        cases f with
        | zero => obtain ⟨v, hy, hK⟩ := h; exact ⟨v, hy, ih k _ w w1 QA QB hr hN (by simpa using hq) hK⟩
        | succ f => simp at hq
  refine key r k a w w _ _ (Rel.refl w) (fun w2 h2' a' w3 hq => ?_) hq h3
  obtain ⟨env', ha', _, hc⟩ := hq
  have h4 := h2 a' (ha'.lose hc.sub)
  have up : ∀ (l : List (Oper × Nat)) (a : Act) (w w' : World) (QA : Act → World → Prop), Rel w w' → wpO P ops QA l a w → wpO P ops QA l a w' := by
    intro l
    induction l with
    | nil => intro a w w' QA hr h w1 h1; exact h w1 (hr.trans h1)
    | cons o l ih =>
      intro a w w' QA hr h
      obtain ⟨o, f⟩ := o
      cases f with
      | zero =>
        obtain ⟨v, hy, hK⟩ := h
        refine ⟨v, ?_, ih _ w w' QA hr hK⟩
        rcases hy with ⟨hw, hq⟩ | hy
        · exact .inl ⟨hw, fun w1 h1 => hq w1 (hr.trans h1)⟩
        · exact .inr hy
      | succ f =>
        rcases h with h | h
        · exact .inl ⟨h.1, fun w1 h1 => h.2 w1 (hr.trans h1)⟩
        · exact .inr ⟨h.1, fun w1 h1 => h.2 w1 (hr.trans h1)⟩
  exact up _ _ _ _ _ h2' h4

/-- The same where memory is made on the way. -/
theorem wo_midM {α : Type} (k : Nat) (E : α → Env) (Φ : α → World → Prop) (h1 : WO P n ops (fun e env w' => e = .normal ∧ ∃ x, Cov env (E x) ∧ Φ x w') (r.take k) env w) (h2 : ∀ x w', Φ x w' → WO P n ops Q (r.drop k) (E x) w') : WO P n ops Q r env w := by
  intro a ha
  have h3 := h1 a ha
  have key : ∀ (l : List (Oper × Nat)) (k : Nat) (a : Act) (w : World) (QA QB : Act → World → Prop), (∀ a w3, QB a w3 → wpO P ops QA (l.drop k) a w3) → wpO P ops QB (l.take k) a w → wpO P ops QA l a w := by
    intro l
    induction l with
    | nil => intro k a w QA QB hN h; simp only [List.take_nil, List.drop_nil] at h hN; exact hN a w (h w (Rel.refl w))
    | cons o l ih =>
      intro k a w QA QB hN h
      cases k with
      | zero => simp only [List.take_zero, List.drop_zero] at h hN; exact hN a w (h w (Rel.refl w))
      | succ k =>
        simp only [List.take_succ_cons, List.drop_succ_cons] at h hN
        obtain ⟨o, f⟩ := o
        cases f with
        | zero => obtain ⟨v, hy, hK⟩ := h; exact ⟨v, hy, ih k _ _ QA QB hN hK⟩
        | succ f =>
          rcases h with h | h
          · exact .inl ⟨h.1, fun w1 h1 => wp_weak (fun _ _ ⟨h2, v, h3, h4⟩ => ⟨h2, v, h3, ih k _ _ QA QB hN h4⟩) (h.2 w1 h1)⟩
          · exact .inr ⟨h.1, fun w1 h1 => ih k _ _ QA QB hN (h.2 w1 h1)⟩
  refine key r k a w _ _ (fun a' w3 hq => ?_) h3
  obtain ⟨env', ha', _, x, hc, hΦ⟩ := hq
  exact h2 x w3 hΦ a' (ha'.lose hc.sub)

theorem mid_onilM {α : Type} {E : α → Env} {Φ : α → World → Prop} (x : α) (hc : Cov env (E x)) (hΦ : ∀ w', Rel w w' → Φ x w') : WO P n ops (fun e env w' => e = .normal ∧ ∃ x, Cov env (E x) ∧ Φ x w') [] env w := o_nil fun w' h' => ⟨rfl, x, hc, hΦ w' h'⟩

theorem mid_onil {E : Env} (hc : Cov env E) : WO P n ops (fun e env _ => e = .normal ∧ Cov env E) [] env w := o_nil fun _ _ => ⟨rfl, hc⟩

end

end Go.Proofs.YtjbonmmmcnpjiaaGreatDoor
namespace Go.Proofs.YtjbonmmmcnpjiaaGreatDoor
open Go.RowKit

section
variable {P : Program} {n : Nat} {Q : Post} {env : Env} {w : World} {c : Code} {i id : Nat}

theorem sq_n (h : WC P n c Q env w) : sq P n c Q .normal env w := h
theorem sq_ret (h : Q .ret env w) : sq P n c Q .ret env w := h
theorem sq_exit (h : Q (.exit i) env w) : sq P n c Q (.exit i) env w := h
theorem bk_n (h : Q .normal env w) : bk id Q .normal env w := h
theorem bk_ret (h : Q .ret env w) : bk id Q .ret env w := h
theorem bk_here (h : Q .normal env w) : bk id Q (.exit id) env w := by simpa [bk] using h
theorem lp1_ret {α : Type} {E : α → Env} {Φ : α → World → Prop} {μ : α → Nat} {x : α} (h : Q .ret env w) : lp E Φ μ x Q .ret env w := h
theorem lp1_exit {α : Type} {E : α → Env} {Φ : α → World → Prop} {μ : α → Nat} {x : α} (h : Q (.exit i) env w) : lp E Φ μ x Q (.exit i) env w := h
end

end Go.Proofs.YtjbonmmmcnpjiaaGreatDoor
namespace Go.Proofs.YtjbonmmmcnpjiaaGreatDoor
open Go.RowKit

def bXor (x y : Int) : Int := IntKind.i64.wrap ((BitVec.ofInt 64 x ^^^ BitVec.ofInt 64 y).toNat : Int)
section
variable {P : Program} {n : Nat} {env : Env} {w : World} {d : Option Tmp} {ty : TypeId} {pos : String} {af : Array Edge} {g : Option (Nat × Bool)}

theorem r_xor {x y : Operand} {t u : TypeId} {i j : Int} (hx : ev env x = some (.int .i64 i)) (hy : ev env y = some (.int .i64 j)) :
    Runs P n env w ⟨d, .binOp .xor t x y u, ty, pos, af, g⟩ (.int .i64 (bXor i j)) w := fun a ha => by
  simp [execOp, ha.ev hx, ha.ev hy, eqGuard, binOp, Op.intBits, bXor, IntKind.bits, -BitVec.toNat_xor, -BitVec.toNat_ofInt]; rfl
theorem r_rem {x y : Operand} {t u : TypeId} {i j : Int} (hx : ev env x = some (.int .i64 i)) (hy : ev env y = some (.int .i64 j)) (h : 0 ≤ i ∧ 0 < j) :
    Runs P n env w ⟨d, .binOp .rem t x y u, ty, pos, af, g⟩ (.int .i64 (i % j)) w := fun a ha => by
  simp [execOp, ha.ev hx, ha.ev hy, eqGuard, binOp, Op.intDiv, show ¬ j = 0 by omega, Int.tmod_eq_emod_of_nonneg h.1]
theorem r_quo {x y : Operand} {t u : TypeId} {i j : Int} (hx : ev env x = some (.int .i64 i)) (hy : ev env y = some (.int .i64 j)) (h : 0 ≤ i ∧ i ≤ 9223372036854775807 ∧ 0 < j) :
    Runs P n env w ⟨d, .binOp .quo t x y u, ty, pos, af, g⟩ (.int .i64 (i / j)) w := fun a ha => by
  have h1 : 0 ≤ i / j := Int.ediv_nonneg h.1 (by omega)
  have h2 : i / j ≤ i := Int.ediv_le_self _ h.1
  simp [execOp, ha.ev hx, ha.ev hy, eqGuard, binOp, Op.intDiv, show ¬ j = 0 by omega, Int.tdiv_eq_ediv_of_nonneg h.1, i64_in (x := i / j) (by omega)]
/-- A small number in another kind. -/
theorem r_cvt {x : Operand} {s t : TypeId} {k k' : IntKind} {td : TypeDesc} {i : Int} (hs : P.underlying s = some td) (ht : P.underlying t = some (.int k)) (hx : ev env x = some (.int k' i)) (h : k.wrap i = i) :
    Runs P n env w ⟨d, .convert s t x, ty, pos, af, g⟩ (.int k i) w := fun a ha => by
  simp [execOp, ha.ev hx, convert, run_underlying hs, run_underlying ht, Conv.intToInt, h]

end

section
variable {P : Program} {n : Nat} {env : Env} {w : World} {ty : TypeId} {pos : String} {af : Array Edge} {ops : Array Oper} {rest : List Oper} {Q : Post}
/-- A call of a function value: what it has caught stands behind the arguments. -/
theorem w_callv {d : Nat} {f : FuncId} {x : Operand} {cap : List Value} {args : List Operand} {ats : Array TypeId} {vs : List Value} {K : Value → World → Prop} (hx : ev env x = some (.func (.func f) #[] cap.toArray)) (hd : Nat.blt d n = true) (hv : evs env args = some vs) (hc : Ret P f (vs ++ cap) w K)
    (h : ∀ v w', K v w' → WL P n ops rest Q ((d, v) :: env) w') : WL P n ops (⟨some d, .call { callee := .value x, args := args.toArray, argTypes := ats }, ty, pos, af, none⟩ :: rest) Q env w := fun a ha =>
  wpList_plain rfl fun K' hK => by
    obtain ⟨⟨fn, hf, hnm, hb⟩, hcalls⟩ := hc
    have h1 : (execOp a.eval ⟨some d, .call { callee := .value x, args := args.toArray, argTypes := ats }, ty, pos, af, none⟩).run P w = .ok (.enter f (vs ++ cap).toArray) w := by
      simp only [execOp, resolve, ha.ev hx, Deferred.ofValue, invoke, callFunc, Sem.run_bind, Sem.run_pure, Result.andThen_ok, run_program, hf, hnm, hb, List.map_toArray, ha.evs _ _ hv]
      simp
    unfold Oper.wp
    rw [h1]
    exact hcalls.mono fun e w' ⟨v, he, hk⟩ => by subst he; exact hK _ _ (h v w' hk _ (ha.put hd v))
end

/-- A slice value. -/
structure Sv where
  p : Option Addr
  n : Nat
  c : Nat
def Sv.v (s : Sv) : Value := .slice s.p s.n s.c

end Go.Proofs.YtjbonmmmcnpjiaaGreatDoor
namespace Go.Proofs.YtjbonmmmcnpjiaaGreatDoor
open Go.RowKit

/-- An element of a list. -/
def el {T : Type} [Inhabited T] (L : List T) (i : Nat) : T := L.getD i default

theorem el_eq {T : Type} [Inhabited T] {L : List T} {i : Nat} (h : i < L.length) : el L i = L[i] := by
  unfold el; rw [List.getD_eq_getElem?_getD, List.getElem?_eq_getElem h]; rfl
theorem el_cons_succ {T : Type} [Inhabited T] (x : T) (L : List T) (i : Nat) : el (x :: L) (i + 1) = el L i := rfl

theorem flatMap_len {T A : Type} {k : Nat} {f : T → List A} (hf : ∀ x, (f x).length = k) : ∀ L : List T, (L.flatMap f).length = L.length * k
  | [] => by simp
  | x :: L => by rw [List.flatMap_cons, List.length_append, hf, flatMap_len hf L, List.length_cons, Nat.add_mul]; omega

theorem flatMap_el {T A : Type} [Inhabited T] {k : Nat} {f : T → List A} (hf : ∀ x, (f x).length = k) : ∀ (L : List T) (i j : Nat), i < L.length → j < k → (L.flatMap f)[i * k + j]? = (f (el L i))[j]?
  | [], i, j, hi, _ => by simp at hi
  | x :: L, 0, j, _, hj => by
    rw [List.flatMap_cons, Nat.zero_mul, Nat.zero_add, List.getElem?_append_left (by rw [hf]; exact hj)]
    rfl
  | x :: L, i + 1, j, hi, hj => by
    rw [List.flatMap_cons, List.getElem?_append_right (by rw [hf, Nat.add_mul]; omega), hf]
    rw [show (i + 1) * k + j - k = i * k + j by rw [Nat.add_mul]; omega]
    rw [flatMap_el hf L i j (by simpa using hi) hj]
    rfl

theorem flatMap_upd {T A : Type} [Inhabited T] {k : Nat} {f : T → List A} (hf : ∀ x, (f x).length = k) : ∀ (L : List T) (i j : Nat) (u : A) (y : T), i < L.length → j < k → f y = (f (el L i)).set j u → (L.set i y).flatMap f = (L.flatMap f).set (i * k + j) u
  | [], i, j, _, _, hi, _, _ => by simp at hi
  | x :: L, 0, j, u, y, _, hj, hx => by
    have hx' : f y = (f x).set j u := hx
    rw [List.flatMap_cons, Nat.zero_mul, Nat.zero_add, List.set_append_left _ _ (by rw [hf]; exact hj), List.set_cons_zero, List.flatMap_cons, hx']
  | x :: L, i + 1, j, u, y, hi, hj, hx => by
    rw [List.flatMap_cons, List.set_append_right _ _ (by rw [hf, Nat.add_mul]; omega), hf, List.set_cons_succ, List.flatMap_cons]
    rw [show (i + 1) * k + j - k = i * k + j by rw [Nat.add_mul]; omega]
    rw [flatMap_upd hf L i j u y (by simpa using hi) hj hx]

/-- Where cell j of a slice lies. -/
def eaddr : Value → Nat → Addr
  | .slice (some a) _ _, j => ⟨a.block, a.off + j, none⟩
  | _, _ => ⟨0, 0, none⟩

def al (w : World) : Bs := fun b => b < w.heap.size

section
variable {w0 : Base} {w w' : World} {m l l' : List As} {rs : List Rd} {c : Ce} {v : Value} {S : Bs}

theorem St.seeR (h : St w0 m rs w) (hr : rV v c ∈ rs) : c.rd (al w) w v := by
  obtain ⟨_, _, F, _, _, h4⟩ := h
  exact c.mono (fun b hb => ⟨hb.2.1, rfl⟩) (h4 _ hr)

theorem Sep.mem {F : Bs} {a : As} : ∀ {m : List As}, Sep m F w → a ∈ m → ∃ F', (∀ b, F' b → F b) ∧ a.ok F' w
  | c :: m, ⟨_, F1, F2, h1, h2, _, h4, h5⟩, hm => by
    rcases List.mem_cons.1 hm with rfl | hm
    · exact ⟨F1, h4, h1⟩
    · obtain ⟨F', h6, h7⟩ := h2.mem hm
      exact ⟨F', fun b hb => h5 b (h6 b hb), h7⟩

theorem St.at' (h : St w0 m rs w) {a : As} (hm : a ∈ m) : ∃ F, a.ok F w := by
  obtain ⟨_, _, F, h2, _, _⟩ := h
  obtain ⟨F', _, h'⟩ := h2.mem hm
  exact ⟨F', h'⟩

theorem St.seeO (h : St w0 m rs w) (hm : oC c v ∈ m) : c.rd (al w) w v := by
  obtain ⟨F, hF⟩ := h.at' hm
  exact c.mono (fun b hb => ⟨c.lt hF hb, rfl⟩) (c.seen hF)

variable {T : Type} {k : Nat} {f : T → List Ce} {L : List T}

theorem Cs.form (h : (cSl k f L).rd S w v) : ∃ s : Sv, v = s.v ∧ s.n = L.length ∧ L.length ≤ s.c ∧ s.c ≤ maxLen := by
  obtain ⟨a, cap, rfl, h1, h2, _⟩ := h
  exact ⟨⟨a, _, cap⟩, rfl, rfl, h1, h2⟩
theorem Cs.sv (h : (cSl k f L).rd S w v) : ∃ s : Sv, v = s.v := by
  obtain ⟨s, h, _⟩ := Cs.form h
  exact ⟨s, h⟩
theorem Cs.le (h : (cSl k f L).rd S w v) : (L.length : Int) ≤ 9223372036854775807 := by
  obtain ⟨s, _, h0, h1, h2⟩ := Cs.form h
  simp only [maxLen] at h2
  omega
theorem Cs.ptr (h : (cSl k f L).rd S w v) {i : Nat} (hi : i < L.length) : ∃ b off len cap, v = .slice (some ⟨b, off, none⟩) len cap := by
  obtain ⟨a, cap, rfl, h1, h2, h3⟩ := h
  obtain ⟨b, off, xs, rfl, _⟩ := h3 (by intro e; subst e; simp at hi)
  exact ⟨b, off, _, _, rfl⟩

theorem Cs.at' [Inhabited T] (h : (cSl k f L).rd S w v) (hf : ∀ x, (f x).length = k) {i j : Nat} (hi : i < L.length) (hc : (f (el L i))[j]? = some c) : ∃ u, w.cell? (eaddr v (i * k + j)) = some u ∧ c.rd S w u ∧ S (eaddr v (i * k + j)).block := by
  obtain ⟨a, cap, rfl, h1, h2, h3⟩ := h
  obtain ⟨b, off, xs, rfl, hS, hl, hx, hr⟩ := h3 (by intro e; subst e; simp at hi)
  have hj : j < k := by
    have := (List.getElem?_eq_some_iff.1 hc).1
    rwa [hf] at this
  have h4 : (L.flatMap f)[i * k + j]? = some c := by rw [flatMap_el hf L i j hi hj]; exact hc
  obtain ⟨u, hu, hcu⟩ := rdAll_get hr h4
  exact ⟨u, by simpa [eaddr] using hx _ u hu, hcu, hS⟩

theorem Cs.get [Inhabited T] (h : (cSl k f L).rd S w v) (hf : ∀ x, (f x).length = k) {i j : Nat} {u : Value} {hu : u.oneCell' = true} (hi : i < L.length) (hc : (f (el L i))[j]? = some (cV u hu)) : w.cell? (eaddr v (i * k + j)) = some u := by
  obtain ⟨u', h1, h2, _⟩ := Cs.at' h hf hi hc
  have : u' = u := h2
  rw [← this]; exact h1

/-- A slice in an element is read. -/
theorem St.leaf [Inhabited T] {T' : Type} {k' : Nat} {f' : T' → List Ce} {L' : List T'} (h : St w0 m rs w) (hr : rV v (cSl k f L) ∈ rs) (hf : ∀ x, (f x).length = k) {i j : Nat} (hi : i < L.length) (hc : (f (el L i))[j]? = some (cSl k' f' L')) :
    ∃ s : Sv, St w0 m (rV s.v (cSl k' f' L') :: rs) w ∧ ∀ w1, Rel w w1 → w1.cell? (eaddr v (i * k + j)) = some s.v := by
  obtain ⟨h1, hb, F, h2, h3, h4⟩ := h
  obtain ⟨u, g1, g2, g3⟩ := Cs.at' (h4 _ hr) hf hi hc
  obtain ⟨s, rfl⟩ := Cs.sv g2
  refine ⟨s, ⟨h1, hb, F, h2, h3, fun r hr' => ?_⟩, fun w1 hw => (hw.cell g3.2.1).trans g1⟩
  rcases List.mem_cons.1 hr' with rfl | hr'
  · exact g2
  · exact h4 r hr'

/-- A part of a slice. -/
def Sv.cut (s : Sv) (k lo hi : Nat) : Sv := ⟨if s.c - lo = 0 then s.p else s.p.map (·.add (lo * k)), hi - lo, s.c - lo⟩

theorem flatMap_take {A : Type} {f : T → List A} (hf : ∀ x, (f x).length = k) : ∀ (L : List T) (i : Nat), (L.take i).flatMap f = (L.flatMap f).take (i * k)
  | [], i => by simp
  | x :: L, 0 => by simp
  | x :: L, i + 1 => by
    rw [List.take_succ_cons, List.flatMap_cons, flatMap_take hf L i, List.flatMap_cons, List.take_append, hf, List.take_of_length_le (l := f x) (by rw [hf, Nat.add_mul]; omega)]
    congr 2
    rw [Nat.add_mul]; omega
theorem flatMap_drop {A : Type} {f : T → List A} (hf : ∀ x, (f x).length = k) : ∀ (L : List T) (i : Nat), (L.drop i).flatMap f = (L.flatMap f).drop (i * k)
  | [], i => by simp
  | x :: L, 0 => by simp
  | x :: L, i + 1 => by
    rw [List.drop_succ_cons, flatMap_drop hf L i, List.flatMap_cons, List.drop_append, hf, List.drop_eq_nil_of_le (as := f x) (by rw [hf, Nat.add_mul]; omega), List.nil_append]
    congr 1
    rw [Nat.add_mul]; omega

theorem rdAll_drop {S : Bs} : ∀ (n : Nat) {cs : List Ce} {vs : List Value}, rdAll S w cs vs → rdAll S w (cs.drop n) (vs.drop n)
  | 0, _, _, h => by simpa using h
  | n + 1, [], _, h => by have : _ = [] := h; subst this; simp [rdAll]
  | n + 1, c :: cs, _, ⟨v, r, e, _, h2⟩ => by subst e; simpa using rdAll_drop n h2
theorem rdAll_take {S : Bs} : ∀ (n : Nat) {cs : List Ce} {vs : List Value}, rdAll S w cs vs → rdAll S w (cs.take n) (vs.take n)
  | 0, _, _, h => by simp [rdAll]
  | n + 1, [], _, h => by have : _ = [] := h; subst this; simp [rdAll]
  | n + 1, c :: cs, _, ⟨v, r, e, h1, h2⟩ => by subst e; exact ⟨v, r.take n, rfl, h1, rdAll_take n h2⟩

theorem Cs.cut (hf : ∀ x, (f x).length = k) {s : Sv} {lo hi : Nat} (h1 : lo ≤ hi) (h2 : hi ≤ L.length) (h : (cSl k f L).rd S w s.v) : (cSl k f ((L.take hi).drop lo)).rd S w (s.cut k lo hi).v := by
  obtain ⟨a, cap, e, hc1, hc2, h3⟩ := h
  obtain ⟨rfl, e2, rfl⟩ : s.p = a ∧ s.n = L.length ∧ s.c = cap := by simpa [Sv.v] using e
  have hlen : ((L.take hi).drop lo).length = hi - lo := by simp; omega
  refine ⟨_, s.c - lo, by rw [hlen]; rfl, by omega, by omega, fun hne => ?_⟩
  have hlt : lo < hi := by
    have : ((L.take hi).drop lo).length ≠ 0 := fun e => hne (List.eq_nil_of_length_eq_zero e)
    omega
  obtain ⟨b, off, xs, ea, hb, hl, hcell, hr⟩ := h3 (by intro e; subst e; simp at h2; omega)
  refine ⟨b, off + lo * k, (xs.take (hi * k)).drop (lo * k), ?_, hb, ?_, fun j u hj => ?_, ?_⟩
  · simp only [Sv.cut]
    rw [if_neg (by omega), ea]
    simp [Addr.add_lit]
  · rw [List.length_drop, List.length_take, hl, hlen, Nat.sub_mul]
    have := Nat.mul_le_mul_right k h2
    omega
  · rw [List.getElem?_drop, List.getElem?_take] at hj
    split at hj
    · rw [Nat.add_assoc]; exact hcell _ _ hj
    · cases hj
  · rw [flatMap_drop hf, flatMap_take hf]
    exact rdAll_drop _ (rdAll_take _ hr)

/-- A part of a slice that is read. -/
theorem St.cutR (hf : ∀ x, (f x).length = k) {s : Sv} {lo hi : Nat} (h1 : lo ≤ hi) (h2 : hi ≤ L.length) (h : St w0 m rs w) (hr : rV s.v (cSl k f L) ∈ rs) : St w0 m (rV (s.cut k lo hi).v (cSl k f ((L.take hi).drop lo)) :: rs) w := by
  obtain ⟨g1, hb, F, g2, g3, g4⟩ := h
  refine ⟨g1, hb, F, g2, g3, fun r hr' => ?_⟩
  rcases List.mem_cons.1 hr' with rfl | hr'
  · exact Cs.cut hf h1 h2 (g4 _ hr)
  · exact g4 r hr'

theorem zipC_take : ∀ (n : Nat) (cs : List Ce) (vs : List Value), zipC (cs.take n) (vs.take n) = (zipC cs vs).take n
  | 0, _, _ => by simp [zipC]
  | n + 1, [], _ => by simp [zipC]
  | n + 1, _ :: _, [] => by simp [zipC]
  | n + 1, c :: cs, v :: vs => by simp [zipC, zipC_take n cs vs]
theorem zipC_drop : ∀ (n : Nat) (cs : List Ce) (vs : List Value), zipC (cs.drop n) (vs.drop n) = (zipC cs vs).drop n
  | 0, _, _ => by simp
  | n + 1, [], _ => by simp [zipC]
  | n + 1, _ :: _, [] => by simp [zipC]
  | n + 1, c :: cs, v :: vs => by simpa [zipC] using zipC_drop n cs vs

theorem Sep.take {F : Bs} {m : List As} (n : Nat) (h : Sep m F w) : Sep (m.take n) F w := by
  rw [← List.take_append_drop n m] at h
  obtain ⟨F1, F2, h1, _, _, h4, _⟩ := h.split
  exact h1.up h4 (by rw [List.take_append_drop] at h; exact h.lt)
theorem Sep.drop {F : Bs} {m : List As} (n : Nat) (h : Sep m F w) : Sep (m.drop n) F w := by
  rw [← List.take_append_drop n m] at h
  obtain ⟨F1, F2, _, h2, _, _, h5⟩ := h.split
  exact h2.up h5 (by rw [List.take_append_drop] at h; exact h.lt)

/-- A part of a slice that is owned. -/
theorem Own.cut (hf : ∀ x, (f x).length = k) {s : Sv} {lo hi : Nat} (h1 : lo ≤ hi) (h2 : hi ≤ L.length) {F : Bs} (h : (cSl k f L).ow F w s.v) : (cSl k f ((L.take hi).drop lo)).ow F w (s.cut k lo hi).v := by
  obtain ⟨xs, hx, h0, F1, F2, ⟨g0, gl, gr⟩, g2, g3, g4, g5⟩ := h
  have hlen : ((L.take hi).drop lo).length = hi - lo := by simp; omega
  have hlo := Nat.mul_le_mul_right k h1
  have hhi := Nat.mul_le_mul_right k h2
  have hxl : ((xs.take (hi * k)).drop (lo * k)).length = (hi - lo) * k := by
    rw [List.length_drop, List.length_take, gl, Nat.sub_mul]; omega
  refine ⟨(xs.take (hi * k)).drop (lo * k), by rw [flatMap_len hf, hlen, hxl], h0, F1, F2, ⟨g0, by rw [hlen, hxl], ?_⟩, ?_, g3, g4, g5⟩
  · rcases gr with ⟨e, hn⟩ | ⟨b, off, cap, cur, e', e, hb, hg, hnc, hcm, hsz, htk⟩
    · left
      obtain ⟨e1, e2, e3⟩ : s.p = none ∧ s.n = 0 ∧ s.c = 0 := by simpa [Sv.v] using e
      have : hi = 0 := by omega
      have : lo = 0 := by omega
      subst_vars
      refine ⟨?_, by omega⟩
      simp [Sv.cut, Sv.v, e1, e3]
    · right
      obtain ⟨e1, e2, rfl⟩ : s.p = some ⟨b, off, none⟩ ∧ s.n = L.length ∧ s.c = cap := by simpa [Sv.v] using e
      by_cases hz : s.c - lo = 0
      · refine ⟨b, off, s.c - lo, cur, e', ?_, hb, hg, by omega, by omega, ?_, ?_⟩
        · simp only [Sv.cut, Sv.v, if_pos hz, e1, hlen]
        · rw [hz, Nat.zero_mul]; omega
        · rw [hlen, show hi - lo = 0 by omega, Nat.zero_mul, List.take_zero]
          symm
          apply List.eq_nil_of_length_eq_zero
          rw [hxl, show hi - lo = 0 by omega, Nat.zero_mul]
      · refine ⟨b, off + lo * k, s.c - lo, cur, e', ?_, hb, hg, by omega, by omega, ?_, ?_⟩
        · simp only [Sv.cut, Sv.v, if_neg hz, e1, hlen]
          simp [Addr.add_lit]
        · rw [Nat.sub_mul]
          have := Nat.mul_le_mul_right k (show lo ≤ s.c by omega)
          omega
        · rw [hlen, ← htk, List.take_take, Nat.min_eq_left hhi, List.drop_take, List.drop_drop, ← Nat.sub_mul]
  · rw [flatMap_drop hf, flatMap_take hf, zipC_drop, zipC_take]
    exact (g2.take _).drop _

end

section
variable {P : Program} {n : Nat} {env : Env} {w : World} {d : Option Tmp} {ty : TypeId} {pos : String} {af : Array Edge} {g : Option (Nat × Bool)}
variable {T : Type} {k : Nat} {f : T → List Ce} {L : List T} {S : Bs} {w1 : World} {v : Value}

theorem r_lenC {x : Operand} {t e : TypeId} (ht : P.underlying t = some (.slice e)) (hx : ev env x = some v) (h : (cSl k f L).rd S w1 v) :
    Runs P n env w ⟨d, .call { callee := .builtin .len, args := #[x], argTypes := #[t] }, ty, pos, af, g⟩ (.int .i64 (L.length : Int)) w := by
  obtain ⟨a, cap, rfl, _⟩ := h
  exact r_len ht hx

theorem r_ixC {x y : Operand} {t e : TypeId} {bytes : Nat} {z : Value} {i : Int} (ht : P.underlying t = some (.slice e)) (hs : Sz P e k bytes z)
    (hx : ev env x = some v) (hy : ev env y = some (.int .i64 i)) (h : (cSl k f L).rd S w1 v) (h0 : 0 ≤ i ∧ i < (L.length : Int)) :
    Runs P n env w ⟨d, .indexAddr t x y, ty, pos, af, g⟩ (.pointer (some (eaddr v (i.toNat * k)))) w := fun a ha => by
  obtain ⟨b, off, len, cap, rfl⟩ := Cs.ptr h (i := i.toNat) (by omega)
  obtain ⟨a1, cap1, e1, _⟩ := h
  obtain ⟨_, rfl, _⟩ : _ ∧ len = L.length ∧ _ := by simpa using e1
  simp [execOp, ha.ev hx, ha.ev hy, Instr.indexAt, run_underlying ht, asIntOf, h0, hs.run, eaddr, Addr.add_lit]

/-- The address of a field of an element. -/
theorem r_fldC {x : Operand} {t : TypeId} {q off : Nat} {i j : Nat} {fs : Array Field} {fd : Field} {size bytes : Nat} {z : Value} (ht : P.underlying t = some (.struct fs)) (hf : fs[q]? = some fd) (ho : fd.offset = off)
    (hs : Sz P fd.type size bytes z) (hx : ev env x = some (.pointer (some (eaddr v j)))) (h : (cSl k f L).rd S w1 v) (hi : i < L.length) :
    Runs P n env w ⟨d, .fieldAddr t x q, ty, pos, af, g⟩ (.pointer (some (eaddr v (j + off)))) w := by
  obtain ⟨b, o, len, cap, rfl⟩ := Cs.ptr h hi
  simp only [eaddr] at hx ⊢
  rw [← Nat.add_assoc]
  exact r_fld ht hf ho hs hx

def cellsAt (w : World) (v : Value) : Nat → List Value → Prop
  | _, [] => True
  | o, u :: r => w.cell? (eaddr v o) = some u ∧ cellsAt w v (o + 1) r

theorem cellsAt_get {v : Value} : ∀ {o : Nat} {us : List Value}, cellsAt w v o us → ∀ {j : Nat} {u : Value}, us[j]? = some u → w.cell? (eaddr v (o + j)) = some u
  | _, [], _, j, u, hj => by simp at hj
  | o, x :: us, ⟨h1, _⟩, 0, u, hj => by simp at hj; subst hj; exact h1
  | o, x :: us, ⟨_, h2⟩, j + 1, u, hj => by
    rw [show o + (j + 1) = o + 1 + j by omega]; exact cellsAt_get h2 (by simpa using hj)

/-- A load of a whole element (or of a struct in it). -/
theorem r_ldC {x : Operand} {t : TypeId} {fs : Array Field} {size bytes : Nat} {z : Value} {i o : Nat} {us : List Value} (ht : P.underlying t = some (.struct fs)) (hs : Sz P t size bytes z) (hx : ev env x = some (.pointer (some (eaddr v o)))) (hl : us.length = size)
    (h : (cSl k f L).rd S w1 v) (hi : i < L.length) (hc : cellsAt w v o us) : Runs P n env w ⟨d, .load t x, ty, pos, af, g⟩ (.agg us.toArray) w := by
  obtain ⟨b, off, len, cap, rfl⟩ := Cs.ptr h hi
  refine r_ldS ht hs hx hl fun j u hj => ?_
  simpa [eaddr, Addr.add_lit, Nat.add_assoc] using cellsAt_get hc hj

theorem Sv.cut_eq (s : Sv) (k lo hi : Nat) : (s.cut k lo hi).v = .slice (if s.c - lo = 0 then s.p else s.p.map (·.add (lo * k))) (hi - lo) (s.c - lo) := rfl

theorem r_slc {x : Operand} {lo hi : Operand} {t e : TypeId} {bytes : Nat} {z : Value} {s : Sv} {i j : Int} (ht : P.underlying t = some (.slice e)) (hs : Sz P e k bytes z)
    (hx : ev env x = some s.v) (hlo : ev env lo = some (.int .i64 i)) (hhi : ev env hi = some (.int .i64 j)) (h : (cSl k f L).rd S w1 s.v) (h0 : 0 ≤ i ∧ i ≤ j ∧ j ≤ (L.length : Int)) :
    Runs P n env w ⟨d, .slice t x (some lo) (some hi) none, ty, pos, af, g⟩ (s.cut k i.toNat j.toNat).v w := fun b hb => by
  obtain ⟨s', e1, e2, hc, _⟩ := Cs.form h
  obtain rfl : s = s' := by cases s; cases s'; simpa [Sv.v] using e1
  have h4 : 0 ≤ j ∧ j ≤ (s.c : Int) := by omega
  have h5 : 0 ≤ i ∧ i ≤ (j.toNat : Int) := by omega
  have e6 : (s.c - i.toNat = 0) = (s.c = i.toNat) := by
    apply propext
    omega
  have hx' : b.eval x = .slice s.p s.n s.c := hb.ev hx
  simp only [execOp, hx', hb.ev hlo, hb.ev hhi, Option.map_some, Option.map_none, Instr.sliceAt, Sem.run_bind, run_underlying ht, Result.andThen_ok, Instr.slice, Instr.sliceBounds, Instr.sliceBound, asIntOf, Sem.run_pure, Sem.run_ite, if_pos h4, if_pos h5, hs.run, Option.isSome_none, Bool.false_eq_true, if_false, e6, Sv.cut_eq]

end
end Go.Proofs.YtjbonmmmcnpjiaaGreatDoor
namespace Go.Proofs.YtjbonmmmcnpjiaaGreatDoor
open Go.RowKit

section
variable {w0 : Base} {w w' : World} {m l l' own : List As} {rs : List Rd} {c : Ce} {v : Value} {S : Bs}
variable {T : Type} {k : Nat} {f : T → List Ce} {L : List T}

/-- The things 'own' are the things 'l'. -/
def Z (w : World) (own l : List As) : Prop := ∀ F, Sep own F w → Sep l F w

theorem zN : Z w [] [] := fun _ h => h
theorem zI : Z w l l := fun _ h => h
theorem Sep.cons0 {F : Bs} {a : As} (ha : ∀ w, a.ok (fun _ => False) w) (h : Sep m F w) : Sep (a :: m) F w :=
  ⟨h.lt, fun _ => False, F, ha w, h, (fun _ h => h.elim), (fun _ h => h.elim), fun _ h => h⟩
theorem zP {a : As} (ha : ∀ w, a.ok (fun _ => False) w) (h : Z w own l) : Z w own (a :: l) := fun F hF => Sep.cons0 ha (h F hF)
theorem zO {a : As} (h : Z w own l) : Z w (a :: own) (a :: l) := fun _ hF => hF.cons_mono h
theorem pV (u : Value) (hu : u.oneCell' = true) : ∀ w, (oC (cV u hu) u).ok (fun _ => False) w := fun _ => ⟨rfl, fun _ h => h.elim⟩
theorem row_nil (k : Nat) : ∀ w, (oRow k (.slice none 0 0) 0 []).ok (fun _ => False) w := fun _ => ⟨(fun _ h => h.elim), by simp, .inl ⟨rfl, rfl⟩⟩
theorem pN (k : Nat) (f : T → List Ce) : ∀ w, (oC (cSl k f []) (.slice none 0 0)).ok (fun _ => False) w := fun w =>
  ⟨[], rfl, (fun _ h => h.elim), fun _ => False, fun _ => False, row_nil k w, (fun _ h => h.elim), (fun _ h => h.elim), (fun _ h => h.elim), fun _ h => h.elim⟩

theorem St.pure (h : St w0 m rs w) {a : As} (ha : ∀ w, a.ok (fun _ => False) w) : St w0 (a :: m) rs w :=
  St.iso (l := []) (l' := [a]) h fun _ hF => Sep.cons0 ha hF
theorem St.nil (h : St w0 m rs w) (k : Nat) (f : T → List Ce) : St w0 (oC (cSl k f []) (.slice none 0 0) :: m) rs w := h.pure (pN k f)

/-- The front is given away. -/
theorem St.drop {a : As} (h : St w0 (a :: m) rs w) : St w0 m rs w := St.iso (l := [a]) (l' := []) h fun _ hF => hF.tail
theorem St.dropAll (h : St w0 m rs w) : St w0 [] rs w := by
  obtain ⟨h1, hb, F, h2, h3, h4⟩ := h
  exact ⟨h1, hb, F, h2.lt, h3, h4⟩
theorem St.dropR (k : Nat) (h : St w0 m rs w) : St w0 m (rs.drop k) w := by
  obtain ⟨h1, hb, F, h2, h3, h4⟩ := h
  exact ⟨h1, hb, F, h2, h3, fun r hr => h4 r (List.mem_of_mem_drop hr)⟩

def pulls : List Nat → List As → List As
  | [], m => m
  | k :: ks, m => match m[k]? with
    | some a => pulls ks (a :: m.eraseIdx k)
    | none => m

theorem St.sel : ∀ (ks : List Nat) {m : List As}, St w0 m rs w → St w0 (pulls ks m) rs w
  | [], _, h => h
  | k :: ks, m, h => by
    unfold pulls
    cases hk : m[k]? with
    | none => exact h
    | some a =>
      refine St.sel ks (h.perm ?_)
      have h1 := (List.getElem?_eq_some_iff.1 hk)
      obtain ⟨hlt, rfl⟩ := h1
      have h2 : m = m.take k ++ m[k] :: m.drop (k + 1) := by simp
      rw [List.eraseIdx_eq_take_drop_succ]
      conv => lhs; rw [h2]
      exact List.perm_middle
theorem St.pl (ks : List Nat) (h : St w0 m rs w) : St w0 (pulls ks m) rs w := St.sel ks h
theorem St.tk (n : Nat) (h : St w0 m rs w) : St w0 (m.take n) rs w := by
  obtain ⟨h1, hb, F, h2, h3, h4⟩ := h
  exact ⟨h1, hb, F, h2.take n, h3, h4⟩

/-- What is owned is only read from now on. -/
theorem St.selO (h : St w0 (oC c v :: m) rs w) : St w0 m (rV v c :: rs) w :=
  St.fix (l := [oC c v]) (r := rV v c) h fun _F ⟨_, _F1, _, h1, _, _, h4, _⟩ => c.mono (fun b hb => ⟨h4 b hb, rfl⟩) (c.seen h1)

/-- A nil slice, to be read. -/
theorem St.nilR (h : St w0 m rs w) (k : Nat) (f : T → List Ce) : St w0 m (rV (.slice none 0 0) (cSl k f []) :: rs) w := (h.nil k f).selO

/-- The row and its cells. -/
theorem St.unrow (h : St w0 (oC (cSl k f L) v :: m) rs w) : ∃ xs : List Value, (L.flatMap f).length = xs.length ∧ St w0 (oRow k v L.length xs :: (zipC (L.flatMap f) xs ++ m)) rs w := by
  obtain ⟨h1, hb, F, ⟨h0, F1, F2, ⟨xs, g1, g2⟩, g3, g4, g5, g6⟩, h3, h4⟩ := h
  have h5 := (Sep.join g2 g3 g4).up (F' := F) (fun b hb => by
    rcases hb with hb | hb
    · exact g5 b hb
    · exact g6 b hb) h0
  exact ⟨xs, g1, h1, hb, F, h5, h3, h4⟩

theorem St.rerow {xs : List Value} (hl : (L.flatMap f).length = xs.length) (h : St w0 (oRow k v L.length xs :: (zipC (L.flatMap f) xs ++ m)) rs w) : St w0 (oC (cSl k f L) v :: m) rs w :=
  St.iso (l := oRow k v L.length xs :: zipC (L.flatMap f) xs) (l' := [oC (cSl k f L) v]) h fun F hF => ⟨hF.lt, F, fun _ => False, ⟨xs, hl, hF⟩, (fun _ h => h.elim), (fun _ _ h => h), (fun _ h => h), fun _ h => h.elim⟩

theorem setCell_heap {b j : Nat} {cs : Array Value} {e : TypeId} {hd : Nat × Nat} {u : Value} (h : w.heap[b]? = some (.cells cs e hd)) : (w.setCell ⟨b, j, none⟩ u).heap[b]? = some (.cells (cs.setIfInBounds j u) e hd) := by
  simp [World.setCell, Array.getElem?_modify, h]
theorem setCell_relx {b j : Nat} {u : Value} {X : Bs} (hX : X b) : RelX X w (w.setCell ⟨b, j, none⟩ u) :=
  ⟨rfl, rfl, rfl, by simp [World.setCell], fun _ _ hk => Below.heap_setCell _ _ _ _ (fun e => hk (by simp only at e; rw [e]; exact hX))⟩

def setMany : List Value → Nat → List Value → List Value
  | cs, _, [] => cs
  | cs, o, v :: r => setMany (cs.set o v) (o + 1) r

theorem setMany_eq : ∀ (vs : List Value) (cs : List Value) (o : Nat), o + vs.length ≤ cs.length → setMany cs o vs = cs.take o ++ vs ++ cs.drop (o + vs.length)
  | [], cs, o, _ => by simp [setMany]
  | v :: r, cs, o, h => by
    simp only [List.length_cons] at h
    rw [setMany, setMany_eq r _ _ (by rw [List.length_set]; omega)]
    have h1 : (cs.set o v).take (o + 1) = cs.take o ++ [v] := by
      rw [List.take_add_one, List.take_set_of_le (Nat.le_refl _), List.getElem?_set_self (by omega)]
      rfl
    have h2 : (cs.set o v).drop (o + 1 + r.length) = cs.drop (o + (r.length + 1)) := by
      rw [List.drop_set_of_lt (by omega)]
      congr 1; omega
    rw [h1, h2]
    simp

theorem setCells_heap {b : Nat} {e : TypeId} {hd : Nat × Nat} : ∀ (vs : List Value) (o : Nat) (cs : Array Value) (w : World), w.heap[b]? = some (.cells cs e hd) → (w.setCells b o vs).heap[b]? = some (.cells (setMany cs.toList o vs).toArray e hd)
  | [], o, cs, w, h => by simpa [World.setCells, setMany] using h
  | v :: r, o, cs, w, h => by
    rw [World.setCells, setCells_heap r (o + 1) _ _ (setCell_heap h), setMany, Array.toList_setIfInBounds]
theorem setCells_relx {b : Nat} {X : Bs} (hX : X b) : ∀ (vs : List Value) (o : Nat) (w : World), RelX X w (w.setCells b o vs)
  | [], _, w => RelX.refl X w
  | _v :: r, o, _w => (setCell_relx hX).trans (setCells_relx hX r (o + 1) _)

theorem Sep.head {F : Bs} {a a' : As} (h : Sep (a :: m) F w) (hi : ∀ F, a.ok F w → ∃ F', a'.ok F' w' ∧ RelX F w w' ∧ ∀ b, F' b → F b ∨ w.heap.size ≤ b) : ∃ F', Sep (a' :: m) F' w' ∧ RelX F w w' ∧ ∀ b, F' b → F b ∨ w.heap.size ≤ b := by
  obtain ⟨h0, F1, F2, h1, h2, h3, h4, h5⟩ := h
  obtain ⟨F', k1, k2, k3⟩ := hi F1 h1
  have g2 : Sep m F2 w' := h2.loc fun b hb => k2.block b (h2.lt b hb) fun h' => h3 b h' hb
  refine ⟨fun b => F' b ∨ F2 b, ⟨fun b hb => ?_, F', F2, k1, g2, fun b hb h' => ?_, fun _ h => .inl h, fun _ h => .inr h⟩, k2.mono h4, fun b hb => ?_⟩
  · rcases hb with hb | hb
    · exact a'.lt k1 hb
    · exact g2.lt b hb
  · rcases k3 b hb with h'' | h''
    · exact h3 b h'' h'
    · have := h2.lt b h'; omega
  · rcases hb with hb | hb
    · exact (k3 b hb).imp (h4 b) id
    · exact .inl (h5 b hb)

theorem St.updHead {a a' : As} (h : St w0 (a :: m) rs w) (hi : ∀ F, a.ok F w → ∃ F', a'.ok F' w' ∧ RelX F w w' ∧ ∀ b, F' b → F b ∨ w.heap.size ≤ b) : St w0 (a' :: m) rs w' :=
  St.upd (l := [a]) (l' := [a']) h fun _ hF => hF.head hi

theorem St.alloc (h : St w0 m rs w) (cs : Array Value) (e : TypeId) : St w0 (oBox w.heap.size cs e :: m) rs (w.alloc (.cells cs e)) :=
  St.upd (l := []) (l' := [oBox w.heap.size cs e]) h fun F hF => ⟨fun b => b = w.heap.size, ⟨fun b hb => by subst hb; simp, fun b => b = w.heap.size, fun _ => False, ⟨fun b hb => by subst hb; simp, rfl, heap_alloc_new w _⟩, (fun _ h => h.elim), (fun _ _ h => h), (fun _ h => h), fun _ h => h.elim⟩, (Rel.alloc w _).x F, fun b hb => .inr (by omega)⟩

/-- A new row. -/
theorem St.allocRow (h : St w0 m rs w) {n cap : Nat} (xs sp : List Value) (cur : Array Value) (e : TypeId) (hcur : cur.toList = xs ++ sp) (hl : xs.length = n * k) (hn : n ≤ cap) (hc : cap ≤ maxLen) (hs : cur.size = cap * k) : St w0 (oRow k (Sv.v ⟨some ⟨w.heap.size, 0, none⟩, n, cap⟩) n xs :: m) rs (w.alloc (.cells cur e)) :=
  St.iso (l := [oBox w.heap.size cur e]) (l' := [oRow k (Sv.v ⟨some ⟨w.heap.size, 0, none⟩, n, cap⟩) n xs]) (h.alloc cur e) fun _ ⟨h0, F1, F2, ⟨h1, h2, h3⟩, h4⟩ =>
    ⟨h0, F1, F2, ⟨h1, hl, .inr ⟨_, 0, cap, _, e, rfl, h2, h3, hn, hc, by omega, by rw [hcur]; simp [← hl]⟩⟩, h4⟩

theorem St.drew (h : St w0 m rs w) : St w0 m rs w.drew := h.call ((Rel.refl w).drew)

end

section
variable {P : Program} {n : Nat} {ops : Array Oper} {Q : Post} {env : Env} {w : World} {w0 : Base} {rest : List Oper} {ty : TypeId} {pos : String} {af : Array Edge} {m own : List As} {rs : List Rd}
variable {T : Type} {k : Nat} {f : T → List Ce} {L : List T}

theorem St.appRow {t tx tyy e : TypeId} {size bytes : Nat} {z : Value} {s : Sv} {n n' : Nat} {xs news : List Value} {x : Value} (ht : P.underlying t = some (.slice e)) (hs : Sz P e size bytes z) (h : St w0 (oRow size s.v n xs :: m) rs w) (hsrc : Src P size tx x n' news w)
    (h63 : n + n' ≤ maxLen) (hby : (n + n') * bytes ≤ 140737488355328) :
    ∃ (s' : Sv) (w' : World), (Builtin.append_ #[t, tx] tyy #[s.v, x]).run P w = .ok s'.v w' ∧ St w0 (oRow size s'.v (n + n') (xs ++ news) :: m) rs w' := by
  obtain ⟨i, hi, hz, hsz, hbt⟩ := hs.info
  subst hsz
  have hzs := hs.2.1
  have h63i : ((n + n' : Nat) : Int) ≤ 9223372036854775807 := by simp only [maxLen] at h63; omega
  obtain ⟨F0, g0, gl, gr⟩ := h.at' (List.mem_cons_self ..)
  have hnl := hsrc.newsLen
  rcases gr with ⟨e1, rfl⟩ | ⟨b, off, cap, cur, e', e1, hb, hg, hnc, hcm, hcs, htk⟩
  · obtain ⟨ep, en, ec⟩ : s.p = none ∧ s.n = 0 ∧ s.c = 0 := by simpa [Sv.v] using e1
    have hxs : xs = [] := List.eq_nil_of_length_eq_zero (by simpa using gl)
    subst hxs
    by_cases hn' : n' = 0
    · subst hn'
      have hne : news = [] := List.eq_nil_of_length_eq_zero (by simpa using hnl)
      subst hne
      refine ⟨s, w, ?_, by simpa using h⟩
      rw [e1]
      rcases hsrc.kind with ⟨e2, hk⟩ | hk <;> simp [Builtin.append_, run_underlying ht, run_underlying hk, sizeOf, typeInfo, hi, hsrc.len, hsrc.cells]
    · have hr := run_append_grow_src (P := P) w t tx tyy e i z ht hi hz none 0 0 [] (run_firstCells_none _ _ _ _ _) x n' news hsrc (by omega) (by simpa using h63i) (by rw [hbt]; exact growslice_fits (by omega) (by simpa using hby))
      refine ⟨⟨some ⟨w.heap.size, 0, none⟩, 0 + n', grownCap w (0 + n') 0 e⟩, _, by rw [e1]; exact hr, ?_⟩
      have hd := (h.drop).drew
      have hge := grownCap_ge w (0 + n') 0 e
      have hc := grownCap_le_maxLen w (0 + n') 0 e (by omega)
      exact hd.allocRow (k := i.size) (n := 0 + n') (cap := grownCap w (0 + n') 0 e) ([] ++ news) (Builtin.zeroCells z.cells (grownCap w (0 + n') 0 e - (0 + n'))).toList _ e (by simp) (by simpa using hnl) hge hc (by
        rw [Array.size_append, size_zeroCells, hzs, List.nil_append, List.size_toArray, hnl, ← Nat.add_mul]; congr 1; omega)
  · obtain ⟨ep, en, ec⟩ : s.p = some ⟨b, off, none⟩ ∧ s.n = n ∧ s.c = cap := by simpa [Sv.v] using e1
    have hnk : n * i.size ≤ cap * i.size := Nat.mul_le_mul_right _ hnc
    by_cases hroom : n + n' ≤ cap
    · have hfit : off + n * i.size + news.length ≤ cur.size := by
        have := Nat.mul_le_mul_right i.size hroom
        rw [Nat.add_mul] at this
        omega
      have hr := run_append_room_src (P := P) w t tx tyy e i ht hi b off n cap x n' news hsrc hroom
        (fun j hj => by simp only [World.cell?, hg]; simp; omega)
        (fun j hj => by simp [World.frozen?, hg])
      refine ⟨⟨some ⟨b, off, none⟩, n + n', cap⟩, _, by rw [e1]; exact hr, ?_⟩
      refine h.updHead fun F ⟨q0, ql, qr⟩ => ?_
      rcases qr with ⟨q1, _⟩ | ⟨b2, off2, cap2, cur2, e2, q1, qb, qg, _, _, _, qtk⟩
      · rw [e1] at q1; cases q1
      · obtain ⟨⟨rfl, rfl⟩, rfl⟩ : (b = b2 ∧ off = off2) ∧ cap = cap2 := by rw [e1] at q1; simpa using q1
        rw [hg] at qg
        obtain ⟨rfl, rfl⟩ : cur = cur2 ∧ e' = e2 := by simpa using qg
        have hrel := setCells_relx (X := F) qb news (off + n * i.size) w
        refine ⟨F, ⟨fun b hb => Nat.lt_of_lt_of_le (q0 b hb) hrel.size, by rw [List.length_append, gl, hnl, Nat.add_mul], .inr ⟨b, off, cap, _, e', rfl, qb, setCells_heap news _ cur w hg, hroom, hcm, ?_, ?_⟩⟩, hrel, fun _ hb => .inl hb⟩
        · rw [setMany_eq _ _ _ (by rw [Array.length_toList]; exact hfit)]
          simp only [List.size_toArray, List.length_append, List.length_take, List.length_drop, Array.length_toList]; omega
        · rw [setMany_eq _ _ _ (by rw [Array.length_toList]; exact hfit)]
          have ha : (cur.toList.take (off + n * i.size)).length = off + n * i.size := by rw [List.length_take, Array.length_toList]; omega
          have hd1 : (cur.toList.take (off + n * i.size)).drop off = xs := by rw [List.drop_take, Nat.add_sub_cancel_left]; exact htk
          rw [List.append_assoc, List.drop_append_of_le_length (by omega), hd1, ← List.append_assoc, List.take_append_of_le_length (by rw [List.length_append, gl, hnl, Nat.add_mul]; omega)]
          rw [List.take_of_length_le (by rw [List.length_append, gl, hnl, Nat.add_mul]; omega)]
    · have hcell : ∀ j u, xs[j]? = some u → w.drew.cell? ((⟨b, off, none⟩ : Addr).add j) = some u := fun j u hj => by
        rw [← htk, List.getElem?_take] at hj
        split at hj
        · rw [List.getElem?_drop, Array.getElem?_toList] at hj
          rw [Addr.add_lit]
          have hg' : w.drew.heap[b]? = some (.cells cur e' (0, 0)) := hg
          simp [World.cell?, hg', hj]
        · cases hj
      have hr := run_append_grow_src (P := P) w t tx tyy e i z ht hi hz (some ⟨b, off, none⟩) n cap xs (run_firstCells_some _ _ _ _ _ _ _ gl hcell) x n' news hsrc (by omega) h63i (by rw [hbt]; exact growslice_fits (by omega) hby)
      refine ⟨⟨some ⟨w.heap.size, 0, none⟩, n + n', grownCap w (n + n') cap e⟩, _, by rw [e1]; exact hr, ?_⟩
      have hge := grownCap_ge w (n + n') cap e
      have hc := grownCap_le_maxLen w (n + n') cap e (by omega)
      exact ((h.drop).drew).allocRow (k := i.size) (n := n + n') (cap := grownCap w (n + n') cap e) (xs ++ news) (Builtin.zeroCells z.cells (grownCap w (n + n') cap e - (n + n'))).toList _ e (by simp) (by rw [List.length_append, gl, hnl, Nat.add_mul]) hge hc (by
        rw [Array.size_append, size_zeroCells, hzs, List.size_toArray, List.length_append, gl, hnl, ← Nat.add_mul, ← Nat.add_mul]; congr 1; omega)

/-- A row that is owned, longer by what a source yields. -/
theorem St.app {t tx tyy e : TypeId} {size bytes : Nat} {z : Value} {s : Sv} {n' : Nat} {news : List Value} {x : Value} {M : List T} (ht : P.underlying t = some (.slice e)) (hs : Sz P e size bytes z) (h : St w0 (oC (cSl size f L) s.v :: (own ++ m)) rs w) (hsrc : Src P size tx x n' news w)
    (hM : M.length = n') (hl : (M.flatMap f).length = news.length) (hz : Z w own (zipC (M.flatMap f) news)) (h63 : L.length + n' ≤ maxLen) (hby : (L.length + n') * bytes ≤ 140737488355328) :
    ∃ (s' : Sv) (w' : World), (Builtin.append_ #[t, tx] tyy #[s.v, x]).run P w = .ok s'.v w' ∧ St w0 (oC (cSl size f (L ++ M)) s'.v :: m) rs w' := by
  obtain ⟨xs, h1, h2⟩ := h.unrow
  have h2' : St w0 (oRow size s.v L.length xs :: (zipC (L.flatMap f) xs ++ (zipC (M.flatMap f) news ++ m))) rs w := by
    refine (St.iso (l := own) (l' := zipC (M.flatMap f) news) (m := oRow size s.v L.length xs :: (zipC (L.flatMap f) xs ++ m)) (h2.perm ?_) hz).perm ?_
    · exact (List.perm_append_comm_assoc ..).cons _ |>.trans List.perm_middle.symm
    · exact List.perm_middle.trans ((List.perm_append_comm_assoc ..).cons _)
  obtain ⟨s', w', hr, h3⟩ := h2'.appRow (tyy := tyy) ht hs hsrc h63 hby
  refine ⟨s', w', hr, St.rerow (xs := xs ++ news) (by rw [List.flatMap_append, List.length_append, List.length_append, h1, hl]) ?_⟩
  rw [List.flatMap_append, zipC_append h1, List.append_assoc, List.length_append, hM]
  exact h3

/-- The value of a slice literal of one element. -/
theorem run_one {t e : TypeId} {size bytes : Nat} {z v : Value} (ht : P.underlying t = some (.slice e)) (hs : Sz P e size bytes z) (hvs : v.cells.size = size) (hsm : Nat.ble size 1000 = true) :
    (Instr.buildSlice t 1 #[(0, v)]).run P w = .ok (.slice (some ⟨w.heap.size, 0, none⟩) 1 1) (w.alloc (.cells v.cells e)) := by
  obtain ⟨i, hi, hz, hsz, hbt⟩ := hs.info
  have hpos := hs.2.2
  have hsm' : size ≤ 1000 := by simpa using hsm
  have hfill : Instr.fill (fun j => some (j * i.size, i.size)) ((Array.range (1 * i.size)).map (z.cells[· % z.cells.size]!)) [(0, v)] = some v.cells := by
    have key : ∀ (l : List Value) (p : Nat) (cs : Array Value), p + l.length = cs.size → (l.zipIdx p).foldl (fun cs (q : Value × Nat) => cs.setIfInBounds q.2 q.1) cs = (cs.toList.take p ++ l).toArray := by
      intro l
      induction l with
      | nil => intro p cs hp; simp at hp; simp [hp, List.take_of_length_le]
      | cons u l ih =>
        intro p cs hp
        simp only [List.zipIdx_cons, List.foldl_cons, List.length_cons] at hp ⊢
        rw [ih (p + 1) _ (by simp; omega)]
        congr 1
        have hlt : p < cs.toList.length := by simp; omega
        rw [Array.toList_setIfInBounds, List.take_add_one, List.take_set, List.getElem?_set_self hlt, List.set_eq_of_length_le (by simp; omega)]
        simp
    have h1 := key v.cells.toList 0 ((Array.range size).map (z.cells[· % z.cells.size]!)) (by simp [hvs])
    simp only [Instr.fill, hsz, Nat.zero_mul, Nat.zero_add, Nat.one_mul, hvs, Array.size_map, Array.size_range, ne_eq, not_true_eq_false, decide_false, Bool.false_or, gt_iff_lt, Nat.lt_irrefl, Bool.false_eq_true, if_false, Option.some.injEq]
    rw [← Array.foldl_toList, Array.toList_zipIdx]
    simpa using h1
  exact run_buildSlice (P := P) w t e 1 #[(0, v)] v.cells i z ht hi hz (by simp [hsz]; omega) (by simp [hsz]; omega) hfill

/-- One element is appended to a row that the call owns: the element is laid by itself first. -/
theorem w_push {d1 d2 : Nat} {x y : Operand} {t e : TypeId} {ty2 : TypeId} {pos2 : String} {af2 : Array Edge} {size bytes : Nat} {z v : Value} {s : Sv} (a : T) (hd1 : Nat.blt d1 n = true) (hd2 : Nat.blt d2 n = true)
    (ht : P.underlying t = some (.slice e)) (hs : Sz P e size bytes z) (hx : ev env x = some v) (hvs : v.cells.size = size) (hf : (f a).length = size) (hsm : Nat.ble size 1000 = true) (hsv : ∀ u, ev ((d1, u) :: env) y = some s.v)
    (hM : St w0 (oC (cSl size f L) s.v :: (own ++ m)) rs w) (hz : ∀ w, Z w own (zipC (f a) v.cells.toList)) (hone : v.cells.toList.all (·.oneCell') = true) (h40 : L.length < 1099511627776) (hby : Nat.ble bytes 127 = true)
    (h : ∀ u (s' : Sv) w', St w0 (oC (cSl size f (L ++ [a])) s'.v :: m) rs w' → WL P n ops rest Q ((d2, s'.v) :: (d1, u) :: env) w') :
    WL P n ops (⟨some d1, .buildSlice t 1 #[(0, x)], ty, pos, af, none⟩ :: ⟨some d2, .call { callee := .builtin .append, args := #[y, .tmp d1], argTypes := #[t, t] }, ty2, pos2, af2, none⟩ :: rest) Q env w := by
  have hb := run_one (P := P) (w := w) ht hs hvs hsm
  have hby' : bytes ≤ 127 := by simpa using hby
  refine wv hd1 (v := .slice (some ⟨w.heap.size, 0, none⟩) 1 1) (w' := w.alloc (.cells v.cells e)) (fun a ha => by simp [execOp, ha.ev hx, hb]) ?_
  have hM1 := hM.call (Rel.alloc w (.cells v.cells e))
  have hbox : (w.alloc (.cells v.cells e)).heap[w.heap.size]? = some (.cells v.cells e (0, 0)) := heap_alloc_new w _
  have hsrc : Src P size t (.slice (some ⟨w.heap.size, 0, none⟩) 1 1) 1 v.cells.toList (w.alloc (.cells v.cells e)) :=
    Src.ofSlice _ ht _ _ _ _ (by simp [hvs]) (fun j u hj => by
      rw [Addr.add_lit, Nat.zero_add]
      rw [Array.getElem?_toList] at hj
      simp only [World.cell?, hbox, Option.isSome_none, Bool.false_eq_true, if_false, hj]) (fun u hu => List.all_eq_true.1 hone u hu)
  obtain ⟨s', w', hr, h3⟩ := St.app (tyy := ty2) (M := [a]) ht hs hM1 hsrc rfl (by simp [hf, hvs]) (by rw [List.flatMap_cons, List.flatMap_nil, List.append_nil]; exact hz _) (by simp only [maxLen]; omega) (by
    have := Nat.mul_le_mul (show L.length + 1 ≤ 1099511627776 by omega) hby'
    omega)
  refine wv hd2 (v := s'.v) (w' := w') (fun a ha => ?_) (h _ s' w' h3)
  have e1 := ha.ev (hsv _)
  have e2 : a.eval (.tmp d1) = .slice (some ⟨w.heap.size, 0, none⟩) 1 1 := ha.ev (x := .tmp d1) (by simp [ev, lk])
  simp [execOp, resolve, invoke, builtin, e1, e2, hr]

/-- Elements that hold no address. -/
def FlatE (f : T → List Ce) : Prop := ∀ x, ∀ c ∈ f x, ∃ u, ∃ hu : u.oneCell' = true, c = cV u hu

theorem flat_cells (hf : FlatE f) {S : Bs} : ∀ {cs : List Ce} {vs : List Value}, (∀ c ∈ cs, ∃ u, ∃ hu : u.oneCell' = true, c = cV u hu) → rdAll S w cs vs → ∀ w, Z w [] (zipC cs vs)
  | [], vs, _, _ => fun _ => zN
  | c :: cs, _, hc, ⟨v, r, rfl, h1, h2⟩ => by
    obtain ⟨u, hu, rfl⟩ := hc c (List.mem_cons_self ..)
    obtain rfl : v = u := h1
    exact fun w => zP (pV v hu) (flat_cells hf (fun c h => hc c (List.mem_cons_of_mem _ h)) h2 w)

theorem rdAll_one {S : Bs} : ∀ {cs : List Ce} {vs : List Value}, rdAll S w cs vs → ∀ u ∈ vs, u.oneCell' = true
  | [], _, h, u, hu => by have : _ = [] := h; subst this; cases hu
  | c :: cs, _, ⟨v, r, rfl, h1, h2⟩, u, hu => by
    rcases List.mem_cons.1 hu with rfl | hu
    · exact c.one h1
    · exact rdAll_one h2 u hu

/-- What a slice that is read yields. -/
theorem Cs.src {S : Bs} {t e : TypeId} {v : Value} (ht : P.underlying t = some (.slice e)) (h : (cSl k f L).rd S w v) : ∃ xs, Src P k t v L.length xs w ∧ rdAll S w (L.flatMap f) xs := by
  obtain ⟨a, cap, rfl, h1, h2, h3⟩ := h
  by_cases hL : L = []
  · subst hL
    cases a with
    | none => exact ⟨[], Src.ofNil w ht cap, rfl⟩
    | some a => exact ⟨[], Src.ofSlice w ht a _ cap [] (by simp) (fun j u hj => by simp at hj) (fun u hu => by cases hu), rfl⟩
  · obtain ⟨b, off, xs, rfl, _, hl, hx, hr⟩ := h3 hL
    exact ⟨xs, Src.ofSlice w ht _ _ cap xs hl (fun j u hj => by rw [Addr.add_lit]; exact hx j u hj) (rdAll_one hr), hr⟩

theorem exI {o : Oper} {K : Value → World → Prop} {v : Value} {w' : World} (hr : Runs P n env w o v w') (hk : K v w') : Ex P n env w o K := ⟨v, w', hr, hk⟩

/-- A list of flat elements is appended to a row that the call owns. -/
theorem x_append {K : Value → World → Prop} {d : Nat} {x y : Operand} {t e : TypeId} {size bytes : Nat} {z xv : Value} {s : Sv} {M : List T} {S : Bs} (ht : P.underlying t = some (.slice e)) (hs : Sz P e size bytes z) (hx : ev env x = some xv) (hsv : ev env y = some s.v)
    (hsrc : (cSl size f M).rd S w xv) (hfl : FlatE f) (hM : St w0 (oC (cSl size f L) s.v :: m) rs w) (h40 : L.length + M.length ≤ 1099511627776) (hby : Nat.ble bytes 127 = true)
    (h : ∀ (s' : Sv) w', St w0 (oC (cSl size f (L ++ M)) s'.v :: m) rs w' → K (s'.v) w') :
    Ex P n env w ⟨some d, .call { callee := .builtin .append, args := #[y, x], argTypes := #[t, t] }, ty, pos, af, none⟩ K := by
  obtain ⟨xs, h1, h2⟩ := Cs.src ht hsrc
  have hby' : bytes ≤ 127 := by simpa using hby
  obtain ⟨s', w', hr, h3⟩ := St.app (tyy := ty) (own := []) (M := M) ht hs hM h1 rfl (rdAll_len h2).symm (flat_cells hfl (fun c hc => by
    obtain ⟨a, _, ha⟩ := List.mem_flatMap.1 hc
    exact hfl a c ha) h2 w) (by simp only [maxLen]; omega) (by
    have := Nat.mul_le_mul h40 hby'
    omega)
  refine exI (v := s'.v) (w' := w') (fun a ha => ?_) (h s' w' h3)
  simp [execOp, resolve, invoke, builtin, ha.ev hsv, ha.ev hx, hr]

/-- Elements of another row that is owned are appended: they move. -/
theorem x_appendO {K : Value → World → Prop} {d : Nat} {x y : Operand} {t e : TypeId} {size bytes : Nat} {z : Value} {s sx : Sv} {M : List T} (ht : P.underlying t = some (.slice e)) (hs : Sz P e size bytes z) (hx : ev env x = some sx.v) (hsv : ev env y = some s.v)
    (hM : St w0 (oC (cSl size f L) s.v :: oC (cSl size f M) sx.v :: m) rs w) (h40 : L.length + M.length ≤ 1099511627776) (hby : Nat.ble bytes 127 = true)
    (h : ∀ (s' : Sv) w', St w0 (oC (cSl size f (L ++ M)) s'.v :: m) rs w' → K (s'.v) w') :
    Ex P n env w ⟨some d, .call { callee := .builtin .append, args := #[y, x], argTypes := #[t, t] }, ty, pos, af, none⟩ K := by
  have hsw := St.unrow (hM.perm (List.Perm.swap ..))
  obtain ⟨xs, hl, hM2⟩ := hsw
  have hrow := hM2.at' (List.mem_cons_self ..)
  have hM3 := hM2.drop
  have hcells : ∀ j u, xs[j]? = some u → ∃ a, sx.p = some a ∧ w.cell? (a.add j) = some u := fun j u hj => by
    obtain ⟨F, _, gl, gr⟩ := hrow
    rcases gr with ⟨e1, hn⟩ | ⟨b, off, cap, cur, e', e1, hb, hg, _, _, _, htk⟩
    · rw [hn, Nat.zero_mul] at gl
      rw [List.eq_nil_of_length_eq_zero gl] at hj
      simp at hj
    · obtain ⟨ep, _⟩ : sx.p = some ⟨b, off, none⟩ ∧ _ := by simpa [Sv.v] using e1
      rw [← htk, List.getElem?_take] at hj
      split at hj
      · rw [List.getElem?_drop, Array.getElem?_toList] at hj
        exact ⟨_, ep, by rw [Addr.add_lit]; simp [World.cell?, hg, hj]⟩
      · cases hj
  have hrd : ∃ S, rdAll S w (M.flatMap f) xs := by
    obtain ⟨_, _, F, h2, _⟩ := hM3
    obtain ⟨F1, _, h3, _⟩ := h2.split
    exact ⟨F1, zipC_seen hl h3⟩
  obtain ⟨S, hrd⟩ := hrd
  obtain ⟨F, _, gl, gr⟩ := hrow
  have hn : sx.n = M.length := by
    rcases gr with ⟨e1, hn⟩ | ⟨b, off, cap, cur, e', e1, _⟩
    · obtain ⟨_, h2, _⟩ : sx.p = none ∧ sx.n = 0 ∧ sx.c = 0 := by simpa [Sv.v] using e1
      omega
    · obtain ⟨_, h2, _⟩ : sx.p = some ⟨b, off, none⟩ ∧ sx.n = M.length ∧ sx.c = cap := by simpa [Sv.v] using e1
      exact h2
  have hsrc : Src P size t sx.v M.length xs w := by
    have e0 : sx.v = .slice sx.p M.length sx.c := by rw [← hn]; rfl
    cases hp : sx.p with
    | none =>
      have hxs : xs = [] := by
        cases xs with
        | nil => rfl
        | cons u r => obtain ⟨a, ha, _⟩ := hcells 0 u rfl; rw [hp] at ha; cases ha
      subst hxs
      have hz : M.length = 0 := by
        have := hs.2.2
        rcases Nat.mul_eq_zero.1 gl.symm with h | h <;> omega
      rw [e0, hp, hz]
      exact Src.ofNil w ht _
    | some a =>
      rw [e0, hp]
      exact Src.ofSlice w ht a _ _ xs gl (fun j u hj => by obtain ⟨a', ha, hc⟩ := hcells j u hj; rw [hp] at ha; cases ha; exact hc) (rdAll_one hrd)
  have hby' : bytes ≤ 127 := by simpa using hby
  have hM4 : St w0 (oC (cSl size f L) s.v :: (zipC (M.flatMap f) xs ++ m)) rs w := hM3.perm List.perm_middle
  obtain ⟨s', w', hr, h3⟩ := St.app (tyy := ty) (M := M) ht hs hM4 hsrc rfl hl zI (by simp only [maxLen]; omega) (by
    have := Nat.mul_le_mul h40 hby'
    omega)
  refine exI (v := s'.v) (w' := w') (fun a ha => ?_) (h s' w' h3)
  simp [execOp, resolve, invoke, builtin, ha.ev hsv, ha.ev hx, hr]

end
end Go.Proofs.YtjbonmmmcnpjiaaGreatDoor
namespace Go.Proofs.YtjbonmmmcnpjiaaGreatDoor
open Go.RowKit

theorem Sep.sub {w : World} {l l' : List As} (hs : List.Sublist l' l) : ∀ {F : Bs}, Sep l F w → Sep l' F w := by
  induction hs with
  | slnil => exact fun h => h
  | cons a _ ih => exact fun h => ih h.tail
  | cons_cons a _ ih => exact fun h => h.cons_mono fun _ => ih

theorem flatMap_upds {T A : Type} [Inhabited T] {k : Nat} {f : T → List A} (hf : ∀ x, (f x).length = k) : ∀ (L : List T) (i j : Nat) (us : List A) (y : T), i < L.length → j + us.length ≤ k → f y = (f (el L i)).take j ++ us ++ (f (el L i)).drop (j + us.length) →
    (L.set i y).flatMap f = (L.flatMap f).take (i * k + j) ++ us ++ (L.flatMap f).drop (i * k + j + us.length)
  | [], i, j, _, _, hi, _, _ => by simp at hi
  | x :: L, 0, j, us, y, _, hj, hx => by
    have hx' : f y = (f x).take j ++ us ++ (f x).drop (j + us.length) := hx
    rw [List.set_cons_zero, List.flatMap_cons, List.flatMap_cons, hx', Nat.zero_mul, Nat.zero_add, List.take_append_of_le_length (by rw [hf]; omega), List.drop_append_of_le_length (by rw [hf]; omega)]
    simp [List.append_assoc]
  | x :: L, i + 1, j, us, y, hi, hj, hx => by
    rw [List.set_cons_succ, List.flatMap_cons, List.flatMap_cons, flatMap_upds hf L i j us y (by simpa using hi) hj hx]
    rw [show (i + 1) * k + j = k + (i * k + j) by rw [Nat.add_mul]; omega]
    rw [List.take_append, List.drop_append, hf, List.take_of_length_le (l := f x) (by rw [hf]; omega), List.drop_eq_nil_of_le (as := f x) (by rw [hf]; omega)]
    rw [Nat.add_sub_cancel_left, show k + (i * k + j) + us.length - k = i * k + j + us.length by omega]
    simp [List.append_assoc]

section
variable {w0 : Base} {w w' : World} {m l l' own : List As} {rs : List Rd} {c : Ce} {v : Value} {S : Bs}
variable {T : Type} {k : Nat} {f : T → List Ce} {L : List T}

/-- Some cells of a row are given up, and others come in. -/
theorem St.upds [Inhabited T] {i j : Nat} {y : T} {cs : List Ce} {us : List Value} {s : Sv} (hf : ∀ x, (f x).length = k) (hi : i < L.length) (hl : cs.length = us.length) (hj : j + us.length ≤ k) (hy : f y = (f (el L i)).take j ++ cs ++ (f (el L i)).drop (j + us.length))
    (hz : ∀ w, Z w own (zipC cs us)) (h : St w0 (oC (cSl k f L) s.v :: (own ++ m)) rs w) :
    ∃ (b o : Nat) (cur : Array Value) (e : TypeId), s.p = some ⟨b, o, none⟩ ∧ w.heap[b]? = some (.cells cur e (0, 0)) ∧ o + i * k + j + us.length ≤ cur.size ∧ St w0 (oC (cSl k f (L.set i y)) s.v :: m) rs (w.setCells b (o + i * k + j) us) := by
  obtain ⟨xs, h1, h2⟩ := h.unrow
  have hik : i * k + k ≤ L.length * k := by rw [← Nat.succ_mul]; exact Nat.mul_le_mul_right k hi
  have hcs : (L.flatMap f).length = L.length * k := flatMap_len hf L
  have hzl : zipC ((L.set i y).flatMap f) (xs.take (i * k + j) ++ us ++ xs.drop (i * k + j + us.length)) = (zipC (L.flatMap f) xs).take (i * k + j) ++ zipC cs us ++ (zipC (L.flatMap f) xs).drop (i * k + j + us.length) := by
    rw [flatMap_upds hf L i j cs y hi (by omega) (by rw [hl]; exact hy), hl]
    rw [zipC_append (by rw [List.length_append, List.length_append, List.length_take, List.length_take]; omega), zipC_append (by rw [List.length_take, List.length_take]; omega), zipC_take, zipC_drop]
  have h3 : St w0 (oRow k s.v L.length xs :: (zipC ((L.set i y).flatMap f) (xs.take (i * k + j) ++ us ++ xs.drop (i * k + j + us.length)) ++ m)) rs w := by
    refine (St.iso (l := zipC (L.flatMap f) xs ++ own) (l' := zipC ((L.set i y).flatMap f) (xs.take (i * k + j) ++ us ++ xs.drop (i * k + j + us.length))) (m := oRow k s.v L.length xs :: m) (h2.perm ?_) fun F hF => ?_).perm ?_
    · rw [← List.append_assoc]; exact List.perm_middle.symm
    · rw [hzl]
      obtain ⟨F1, F2, g1, g2, g3, g4, g5⟩ := hF.split
      have g1' : Sep ((zipC (L.flatMap f) xs).take (i * k + j) ++ (zipC (L.flatMap f) xs).drop (i * k + j + us.length)) F1 w := Sep.sub (by
        conv => rhs; rw [← List.take_append_drop (i * k + j) (zipC (L.flatMap f) xs)]
        refine List.Sublist.append_left ?_ _
        rw [← List.drop_drop]
        exact List.drop_sublist _ _) g1
      have g6 := (Sep.join g1' (hz w F2 g2) g3).up (F' := F) (fun b hb => by
        rcases hb with hb | hb
        · exact g4 b hb
        · exact g5 b hb) hF.lt
      refine g6.perm ?_
      rw [List.append_assoc, List.append_assoc]
      exact List.Perm.append_left _ List.perm_append_comm
    · exact List.perm_middle
  obtain ⟨F0, g0, gl, gr⟩ := h3.at' (List.mem_cons_self ..)
  rcases gr with ⟨e1, hn⟩ | ⟨b, o, cap, cur, e, e1, hb, hg, hnc, hcm, hsz, htk⟩
  · omega
  · obtain ⟨ep, en, ec⟩ : s.p = some ⟨b, o, none⟩ ∧ s.n = L.length ∧ s.c = cap := by simpa [Sv.v] using e1
    have hnk : L.length * k ≤ cap * k := Nat.mul_le_mul_right _ hnc
    have hfit : o + i * k + j + us.length ≤ cur.size := by omega
    refine ⟨b, o, cur, e, ep, hg, hfit, St.rerow (xs := xs.take (i * k + j) ++ us ++ xs.drop (i * k + j + us.length)) ?_ ?_⟩
    · rw [flatMap_len hf, List.length_set, List.length_append, List.length_append, List.length_take, List.length_drop]; omega
    · rw [List.length_set]
      refine h3.updHead fun F ⟨q0, ql, qr⟩ => ?_
      rcases qr with ⟨q1, _⟩ | ⟨b2, o2, cap2, cur2, e2, q1, qb, qg, _, _, _, qtk⟩
      · rw [e1] at q1; cases q1
      · obtain ⟨⟨rfl, rfl⟩, rfl⟩ : (b = b2 ∧ o = o2) ∧ cap = cap2 := by rw [e1] at q1; simpa using q1
        rw [hg] at qg
        obtain ⟨rfl, rfl⟩ : cur = cur2 ∧ e = e2 := by simpa using qg
        have hrel := setCells_relx (X := F) qb us (o + i * k + j) w
        refine ⟨F, ⟨fun b hb => Nat.lt_of_lt_of_le (q0 b hb) hrel.size, by rw [List.length_append, List.length_append, List.length_take, List.length_drop]; omega, .inr ⟨b, o, cap, _, e, e1, qb, setCells_heap us _ cur w hg, hnc, hcm, ?_, ?_⟩⟩, hrel, fun _ hb => .inl hb⟩
        · rw [setMany_eq _ _ _ (by rw [Array.length_toList]; exact hfit)]
          simp only [List.size_toArray, List.length_append, List.length_take, List.length_drop, Array.length_toList]; omega
        · rw [setMany_eq _ _ _ (by rw [Array.length_toList]; exact hfit), ← htk]
          have hcl : cur.toList.length = cur.size := Array.length_toList
          rw [List.take_take, List.drop_take, List.drop_drop, show min (i * k + j) (L.length * k) = i * k + j by omega]
          rw [List.append_assoc, List.drop_append_of_le_length (by rw [List.length_take]; omega), List.drop_take, show o + i * k + j - o = i * k + j by omega]
          rw [← List.append_assoc, List.take_append, List.length_append, List.length_take, List.length_drop]
          rw [List.take_of_length_le (by rw [List.length_append, List.length_take, List.length_drop]; omega)]
          congr 1
          rw [show o + i * k + j + us.length = o + (i * k + j + us.length) by omega]
          congr 1
          omega

end

section
variable {P : Program} {n : Nat} {ops : Array Oper} {Q : Post} {env : Env} {w w' : World} {w0 : Base} {rest : List Oper} {ty : TypeId} {pos : String} {af : Array Edge} {m own : List As} {rs : List Rd}
variable {T : Type} {k : Nat} {f : T → List Ce} {L : List T}

theorem run_st {t : TypeId} {size bytes : Nat} {z u : Value} {b o : Nat} {cur : Array Value} {e : TypeId} (hs : Sz P t size bytes z) (hu : u.cells.size = size) (hone : u.cells.toList.all (·.oneCell') = true) (hg : w.heap[b]? = some (.cells cur e (0, 0))) (hfit : o + u.cells.toList.length ≤ cur.size) :
    (storeVar t ⟨b, o, none⟩ u).run P w = .ok () (w.setCells b o u.cells.toList) := by
  have h1 := run_storeCells_cells (P := P) b o u.cells.toList 0 w (fun j hj => by simp only [World.cell?, hg]; simp; rw [Array.length_toList] at hj hfit; omega) (fun j _ => by simp [World.frozen?, hg]) (fun v hv => List.all_eq_true.1 hone v hv)
  simp only [Nat.add_zero] at h1
  simp [storeVar, hs.run, hu, h1]

/-- A store into an element of a row that the call owns. -/
theorem St.stE [Inhabited T] {t : TypeId} {x y : Operand} {s : Sv} {u : Value} {size bytes : Nat} {z : Value} {i j : Nat} (a : T) (cs : List Ce) (hs : Sz P t size bytes z) (hf : ∀ x, (f x).length = k) (hx : ev env x = some (.pointer (some (eaddr s.v (i * k + j))))) (hy : ev env y = some u) (hi : i < L.length)
    (hu : u.cells.size = size) (hl : cs.length = u.cells.toList.length) (hj : Nat.ble (j + u.cells.toList.length) k = true) (hone : u.cells.toList.all (·.oneCell') = true) (ha : f a = (f (el L i)).take j ++ cs ++ (f (el L i)).drop (j + u.cells.toList.length)) (hz : ∀ w, Z w own (zipC cs u.cells.toList))
    (hM : St w0 (oC (cSl k f L) s.v :: (own ++ m)) rs w) : ∃ w', RunsU P n env w ⟨none, .store t x y, ty, pos, af, none⟩ w' ∧ St w0 (oC (cSl k f (L.set i a)) s.v :: m) rs w' := by
  obtain ⟨b, o, cur, e, ep, hg, hfit, h3⟩ := hM.upds hf hi hl (by simpa using hj) ha hz
  refine ⟨w.setCells b (o + i * k + j) u.cells.toList, fun a ha => ?_, h3⟩
  have hx' := ha.ev hx
  have e1 : s.v = .slice (some ⟨b, o, none⟩) s.n s.c := by rw [← ep]; rfl
  rw [e1] at hx'
  simp only [eaddr, ← Nat.add_assoc] at hx'
  have h5 := run_st (P := P) (t := t) hs hu hone hg hfit
  simp [execOp, hx', ha.ev hy, Instr.storeAt, Instr.sureAddr, h5]

theorem box_cell {b j : Nat} {cs : Array Value} {e : TypeId} {v : Value} (hM : St w0 m rs w) (hm : oBox b cs e ∈ m) (hc : cs[j]? = some v) : w.cell? ⟨b, j, none⟩ = some v := by
  obtain ⟨F, _, _, hg⟩ := hM.at' hm
  rw [cell_of_row w b j cs e (0, 0) hg]; exact hc

theorem r_ldB {d : Option Tmp} {g : Option (Nat × Bool)} {x : Operand} {t : TypeId} {b j : Nat} {cs : Array Value} {e : TypeId} {v : Value} {td : TypeDesc} (ht : P.underlying t = some td) (hn : noAgg td = true) (hx : ev env x = some (.pointer (some ⟨b, j, none⟩)))
    (hM : St w0 m rs w) (hm : oBox b cs e ∈ m) (hc : cs[j]? = some v) : Runs P n env w ⟨d, .load t x, ty, pos, af, g⟩ v w := r_ld ht hn hx (box_cell hM hm hc)

/-- A load of a struct out of a box. -/
theorem r_ldBS {d : Option Tmp} {g : Option (Nat × Bool)} {x : Operand} {t : TypeId} {b o : Nat} {fs : Array Field} {size bytes : Nat} {z : Value} {us : List Value} {cs : Array Value} {e : TypeId} (ht : P.underlying t = some (.struct fs)) (hs : Sz P t size bytes z) (hx : ev env x = some (.pointer (some ⟨b, o, none⟩)))
    (hl : us.length = size) (hM : St w0 m rs w) (hm : oBox b cs e ∈ m) (hc : (cs.toList.drop o).take size = us) : Runs P n env w ⟨d, .load t x, ty, pos, af, g⟩ (.agg us.toArray) w :=
  r_ldS ht hs hx hl fun j u hj => by
    rw [Addr.add_lit]
    refine box_cell hM hm ?_
    rw [← hc, List.getElem?_take] at hj
    split at hj
    · rw [List.getElem?_drop, Array.getElem?_toList] at hj; exact hj
    · cases hj

theorem x_alloc {K : Value → World → Prop} {d : Nat} {e : TypeId} {size bytes : Nat} {z : Value} (hs : Sz P e size bytes z) (hM : St w0 m rs w)
    (h : ∀ b w', Rel w w' → St w0 (oBox b z.cells e :: m) rs w' → K (.pointer (some ⟨b, 0, none⟩)) w') : Ex P n env w ⟨some d, .alloc e, ty, pos, af, none⟩ K :=
  exI (w' := w.alloc (.cells z.cells e)) (fun a ha => by
    simp [execOp, Instr.alloc, hs.zero, newVar, newRow]) (h _ _ (Rel.alloc w _) (hM.alloc _ _))

theorem x_box {K : Value → World → Prop} {d : Nat} {e : TypeId} {x : Operand} {v : Value} (hx : ev env x = some v) (hM : St w0 m rs w)
    (h : ∀ b w', Rel w w' → St w0 (oBox b v.cells e :: m) rs w' → K (.pointer (some ⟨b, 0, none⟩)) w') : Ex P n env w ⟨some d, .box e x, ty, pos, af, none⟩ K :=
  exI (w' := w.alloc (.cells v.cells e)) (fun a ha => by
    simp [execOp, ha.ev hx, Instr.box, newVar, newRow]) (h _ _ (Rel.alloc w _) (hM.alloc _ _))

/-- A store into a box. -/
theorem St.stB {t : TypeId} {x y : Operand} {b j : Nat} {cs cs' : Array Value} {e : TypeId} {u : Value} {size bytes : Nat} {z : Value} (hs : Sz P t size bytes z) (hx : ev env x = some (.pointer (some ⟨b, j, none⟩))) (hy : ev env y = some u) (hu : u.cells.size = size) (hone : u.cells.toList.all (·.oneCell') = true)
    (hj : Nat.ble (j + u.cells.toList.length) cs.size = true) (hc : cs'.toList = cs.toList.take j ++ u.cells.toList ++ cs.toList.drop (j + u.cells.toList.length)) (hM : St w0 (oBox b cs e :: m) rs w) : ∃ w', RunsU P n env w ⟨none, .store t x y, ty, pos, af, none⟩ w' ∧ St w0 (oBox b cs' e :: m) rs w' := by
  obtain ⟨_, _, _, hg⟩ := hM.at' (List.mem_cons_self ..)
  have hj' : j + u.cells.toList.length ≤ cs.size := by simpa using hj
  have h5 := run_st (P := P) (t := t) hs hu hone hg hj'
  refine ⟨w.setCells b j u.cells.toList, fun a ha => by simp [execOp, ha.ev hx, ha.ev hy, Instr.storeAt, Instr.sureAddr, h5], hM.updHead fun F ⟨q0, qb, _⟩ => ?_⟩
  have hrel := setCells_relx (X := F) qb u.cells.toList j w
  refine ⟨F, ⟨fun b hb => Nat.lt_of_lt_of_le (q0 b hb) hrel.size, qb, ?_⟩, hrel, fun _ hb => .inl hb⟩
  rw [setCells_heap _ _ _ _ hg, setMany_eq _ _ _ (by rw [Array.length_toList]; exact hj'), ← hc]

theorem zipC_rep {c0 : List Ce} {zs : List Value} (hl : c0.length = zs.length) (hz : ∀ w, Z w [] (zipC c0 zs)) : ∀ (n : Nat) (w : World), Z w [] (zipC ((List.replicate n c0).flatten) ((List.replicate n zs).flatten))
  | 0, _ => zN
  | n + 1, w => fun F hF => by
    rw [List.replicate_succ, List.flatten_cons, List.replicate_succ, List.flatten_cons, zipC_append hl]
    have h1 := hz w (fun _ => False) (fun _ h => h.elim)
    have h2 := zipC_rep hl hz n w F hF
    exact (Sep.join h1 h2 (fun _ h => h.elim)).up (fun b hb => by
      rcases hb with hb | hb
      · exact hb.elim
      · exact hb) h2.lt

theorem zero_row {size : Nat} (cs : List Value) (hc : cs.length = size) (k : Nat) : ((Array.range (k * size)).map fun j => (cs.toArray[j % size]?).getD default) = ((List.replicate k cs).flatten).toArray := by
  apply Array.ext'
  simp only [Array.toList_map, Array.toList_range]
  induction k with
  | zero => simp
  | succ k ih =>
    rw [List.replicate_succ', List.flatten_append, Nat.add_mul, Nat.one_mul, List.range_add, List.map_append, ih]
    congr 1
    simp only [List.flatten_cons, List.flatten_nil, List.append_nil, List.map_map]
    apply List.ext_getElem
    · simp [hc]
    · intro j h1 h2
      have hj : j < size := by simpa using h1
      have h3 : (k * size + j) % size = j := by rw [Nat.add_comm, Nat.add_mul_mod_self_right, Nat.mod_eq_of_lt hj]
      simp [h3, List.getElem?_eq_getElem h2]

/-- A new row as an assertion. -/
theorem St.newRow (hM : St w0 (own ++ m) rs w) {us : List Value} {len : Nat} (e : TypeId) (hf : ∀ x, (f x).length = k) (hL : L.length = len) (hl : us.length = len * k) (hz : ∀ w, Z w own (zipC (L.flatMap f) us)) (hm : len ≤ maxLen) :
    St w0 (oC (cSl k f L) (Sv.v ⟨some ⟨w.heap.size, 0, none⟩, len, len⟩) :: m) rs (w.alloc (.cells us.toArray e)) := by
  have h1 := hM.allocRow (k := k) (n := len) (cap := len) us [] us.toArray e (by simp) hl (Nat.le_refl _) hm (by simpa using hl)
  refine St.rerow (xs := us) (by rw [flatMap_len hf, hL, hl]) ?_
  rw [hL]
  exact (St.iso (l := own) (l' := zipC (L.flatMap f) us) (m := oRow k _ len us :: m) (h1.perm List.perm_middle.symm) (hz _)).perm List.perm_middle

/-- A new row of zeros. -/
theorem x_make {K : Value → World → Prop} {d : Nat} {x : Operand} {t e : TypeId} {size bytes : Nat} {z : Value} {k : Nat} (y : T) (ht : P.underlying t = some (.slice e)) (hs : Sz P e size bytes z) (hf : ∀ x, (f x).length = size) (hz : ∀ w, Z w [] (zipC (f y) z.cells.toList)) (hx : ev env x = some (.int .i64 (k : Int)))
    (hk : k ≤ 1099511627776) (hby : Nat.ble bytes 255 = true) (hM : St w0 m rs w)
    (h : ∀ (s : Sv) w', Rel w w' → St w0 (oC (cSl size f (List.replicate k y)) s.v :: m) rs w' → K s.v w') : Ex P n env w ⟨some d, .makeSlice t x x, ty, pos, af, none⟩ K := by
  obtain ⟨i, hi, hzz, hsz, hbt⟩ := hs.info
  have hby' : bytes ≤ 255 := by simpa using hby
  have hb : (bytes : Int) * (k : Int) ≤ 281474976710656 := by
    have := Nat.mul_le_mul hby' hk
    omega
  have hw : IntKind.i64.wrap (k : Int) = (k : Int) := i64_in ⟨by omega, by omega⟩
  have hfl : z.cells.toList.length = size := by rw [Array.length_toList]; exact hs.2.1
  have hrow := zero_row z.cells.toList hfl k
  have hpos := hs.2.2
  have hrun : (Instr.makeSlice t (.int .i64 (k : Int)) (.int .i64 (k : Int))).run P w = .ok (.slice (some ⟨w.heap.size, 0, none⟩) k k) (w.alloc (.cells ((List.replicate k z.cells.toList).flatten).toArray e)) := by
    by_cases hk0 : k = 0
    · subst hk0
      have hw0 : IntKind.i64.wrap 0 = 0 := i64_in ⟨by omega, by omega⟩
      simp [Instr.makeSlice, run_underlying ht, asInt, asIntOf, typeInfo, hi, hw0, hs.run, Go.newRow]
      rw [show (Array.range 0).map (fun _ => (default : Value)) = #[] from by simp]
    · have hz2 : z.cells = z.cells.toList.toArray := by simp
      have hzs : z.cells.toList.toArray.size = size := by simpa using hfl
      simp only [Instr.makeSlice, run_underlying ht, asInt, asIntOf, typeInfo, hi, hw, hbt, Sem.run_bind, Sem.run_pure, Result.andThen_ok, run_program]
      simp only [Sem.run_ite]
      generalize hzc : z.cells.toList = zl at *
      simp [hfl, Go.newRow, hs.zero, hs.run, hz2]
      rw [if_neg (by omega)]
      have h7 := hrow
      simp only [List.getElem?_toArray] at h7
      rw [h7, if_neg (by rw [Nat.mul_eq_zero]; omega)]
  refine exI (v := Sv.v ⟨some ⟨w.heap.size, 0, none⟩, k, k⟩) (w' := w.alloc (.cells ((List.replicate k z.cells.toList).flatten).toArray e)) (fun a ha => by simp [execOp, ha.ev hx, hrun, Sv.v]) (h _ _ (Rel.alloc w _) ?_)
  refine St.newRow (own := []) hM e hf (by simp) ?_ (fun w => ?_) (by simp only [maxLen]; omega)
  · rw [List.length_flatten]; simp [hs.2.1]
  · have hfm : (List.replicate k y).flatMap f = (List.replicate k (f y)).flatten := by
      rw [List.flatMap_def, List.map_replicate]
    rw [hfm]
    exact zipC_rep (by rw [hf, hfl]) hz k w

/-- An empty slice literal. -/
theorem x_empty {K : Value → World → Prop} {d : Nat} {t e : TypeId} {size bytes : Nat} {z : Value} (ht : P.underlying t = some (.slice e)) (hs : Sz P e size bytes z) (hf : ∀ x, (f x).length = size) (hM : St w0 m rs w)
    (h : ∀ (s : Sv) w', Rel w w' → St w0 (oC (cSl size f ([] : List T)) s.v :: m) rs w' → K s.v w') : Ex P n env w ⟨some d, .buildSlice t 0 #[], ty, pos, af, none⟩ K := by
  refine exI (v := Sv.v ⟨some ⟨w.heap.size, 0, none⟩, 0, 0⟩) (w' := w.alloc (.cells #[] e)) (fun a ha => ?_) (h _ _ (Rel.alloc w _) ?_)
  · simp [execOp, Instr.buildSlice, run_underlying ht, hs.run, Instr.fill, Go.newRow]
    rw [show (Array.range 0).map (fun _ => (default : Value)) = #[] from by simp]
    exact ⟨rfl, rfl⟩
  · exact St.newRow (own := []) (us := []) hM e hf rfl (by simp) (fun _ => zN) (by simp [maxLen])

def evP (env : Env) : List (Nat × Operand) → Option (List (Nat × Value))
  | [] => some []
  | (i, x) :: r => match ev env x, evP env r with
    | some v, some vs => some ((i, v) :: vs)
    | _, _ => none

theorem Has.evP {n : Nat} {a : Act} {env : Env} (h : Has n a env) : ∀ {l : List (Nat × Operand)} {vs : List (Nat × Value)}, Go.Proofs.YtjbonmmmcnpjiaaGreatDoor.evP env l = some vs → l.map (fun p => (p.1, a.eval p.2)) = vs
  | [], vs, hv => by simp [Go.Proofs.YtjbonmmmcnpjiaaGreatDoor.evP] at hv; simp [hv]
  | (i, x) :: r, vs, hv => by
    unfold Go.Proofs.YtjbonmmmcnpjiaaGreatDoor.evP at hv
    split at hv
    · rename_i v vs' h1 h2
      simp at hv
      subst hv
      simp [h.ev h1, h.evP h2]
    · cases hv

theorem r_build {d : Option Tmp} {g : Option (Nat × Bool)} {t : TypeId} {parts : List (Nat × Operand)} {vs : List (Nat × Value)} {cells : Array Value} (hp : evP env parts = some vs) (h : P.built t vs = some cells) :
    Runs P n env w ⟨d, .build t parts.toArray, ty, pos, af, g⟩ (.agg cells) w := fun a ha => by
  have h1 := ha.evP hp
  have h2 : (Instr.build t (parts.toArray.map fun p => (p.1, a.eval p.2))).run P w = .ok (.agg cells) w := run_build w t _ cells (by rw [Array.toList_map, ← h, ← h1])
  simp only [execOp, Sem.run_bind, h2, Result.andThen_ok, Sem.run_pure]

/-- A slice literal, every place written. -/
theorem x_lit {K : Value → World → Prop} {g : Option (Nat × Bool)} {d : Nat} {t e : TypeId} {size bytes : Nat} {z : Value} {parts : List (Nat × Operand)} {vs : List (Nat × Value)} (l : List T) (us : List Value) (len : Nat) (ht : P.underlying t = some (.slice e)) (hs : Sz P e size bytes z) (hf : ∀ x, (f x).length = size)
    (hp : evP env parts = some vs) (hl : l.length = len) (hul : us.length = len * size) (hpos : Nat.blt 0 len = true) (hsm : Nat.ble (len * size) 1000 = true)
    (hfill : Instr.fill (fun i => some (i * size, size)) ((Array.range (len * size)).map (z.cells[· % z.cells.size]!)) vs = some us.toArray) (hz : ∀ w, Z w own (zipC (l.flatMap f) us))
    (hM : St w0 (own ++ m) rs w) (h : ∀ (s : Sv) w', Rel w w' → St w0 (oC (cSl size f l) s.v :: m) rs w' → K s.v w') :
    Ex P n env w ⟨some d, .buildSlice t len parts.toArray, ty, pos, af, g⟩ K := by
  obtain ⟨i, hi, hzz, hsz, hbt⟩ := hs.info
  have hsm' := Nat.le_of_ble_eq_true hsm
  have hpos' : 0 < len := by simpa using hpos
  have hs0 := hs.2.2
  have hne : ¬ len * size = 0 := by
    intro e0
    rcases Nat.mul_eq_zero.1 e0 with h | h <;> omega
  refine exI (v := Sv.v ⟨some ⟨w.heap.size, 0, none⟩, len, len⟩) (w' := w.alloc (.cells us.toArray e)) (fun a ha => ?_) (h _ _ (Rel.alloc w _) (St.newRow hM e hf hl hul hz ?_))
  · have h1 := ha.evP hp
    have h2 : (parts.toArray.map fun (i, x) => (i, a.eval x)).toList = vs := by rw [Array.toList_map, ← h1]
    have h3 := run_buildSlice (P := P) w t e len (parts.toArray.map fun p => (p.1, a.eval p.2)) us.toArray i z ht hi hzz (by rw [hsz]; omega) (by rw [hsz]; exact hne) (by rw [hsz, h2]; exact hfill)
    simp only [execOp, Sem.run_bind, h3, Result.andThen_ok, Sem.run_pure]
    rfl
  · simp only [maxLen]
    have : len ≤ len * size := Nat.le_mul_of_pos_right _ hs0
    omega

end
end Go.Proofs.YtjbonmmmcnpjiaaGreatDoor
namespace Go.Proofs.YtjbonmmmcnpjiaaGreatDoor
open Go.RowKit

-- What a function computes

/-- The outcome of a round. -/
inductive Lr (σ ρ : Type) where
  | go (s : σ)
  | out (r : ρ)

def xg (p : Prop) [Decidable p] {α : Type} (x : Option α) : Option α := if p then x else none

def Lr.on {σ ρ α : Type} (r : Lr σ ρ) (f : σ → α) (g : ρ → α) : α := match r with
  | .go s => f s
  | .out r => g r

/-- Rounds, at most so many. -/
def iterN {σ ρ : Type} (f : σ → Option (Lr σ ρ)) : Nat → σ → Option ρ
  | 0, _ => none
  | n + 1, s => (f s).bind fun r => r.on (iterN f n) some

open Classical in
/-- Rounds up to the end. -/
noncomputable def iter {σ ρ : Type} (f : σ → Option (Lr σ ρ)) (s : σ) : Option ρ :=
  if h : ∃ n r, iterN f n s = some r then some h.choose_spec.choose else none

theorem iterN_up {σ ρ : Type} {f : σ → Option (Lr σ ρ)} : ∀ {n m : Nat} {s : σ} {r : ρ}, iterN f n s = some r → n ≤ m → iterN f m s = some r
  | 0, _, _, _, h, _ => by cases h
  | n + 1, 0, _, _, _, hm => by omega
  | n + 1, m + 1, s, r, h, hm => by
    unfold iterN at h ⊢
    cases hf : f s with
    | none => rw [hf] at h; cases h
    | some x =>
      rw [hf] at h
      cases x with
      | go s' => exact iterN_up (n := n) h (by omega)
      | out r' => exact h

theorem iter_some {σ ρ : Type} {f : σ → Option (Lr σ ρ)} {s : σ} {r : ρ} : iter f s = some r ↔ ∃ n, iterN f n s = some r := by
  unfold iter
  constructor
  · intro h
    split at h
    · rename_i hx
      simp only [Option.some.injEq] at h
      subst h
      exact ⟨_, hx.choose_spec.choose_spec⟩
    · cases h
  · rintro ⟨n, hn⟩
    have hx : ∃ n r, iterN f n s = some r := ⟨n, r, hn⟩
    rw [dif_pos hx]
    have h1 := hx.choose_spec.choose_spec
    have h2 := iterN_up h1 (Nat.le_max_left hx.choose n)
    have h3 := iterN_up hn (Nat.le_max_right hx.choose n)
    rw [h2] at h3
    exact h3

theorem iter_eq {σ ρ : Type} (f : σ → Option (Lr σ ρ)) (s : σ) : iter f s = (f s).bind fun r => r.on (iter f) some := by
  cases hf : f s with
  | none =>
    cases h : iter f s with
    | none => rfl
    | some r =>
      obtain ⟨n, hn⟩ := iter_some.1 h
      cases n with
      | zero => cases hn
      | succ n => unfold iterN at hn; rw [hf] at hn; cases hn
  | some x =>
    cases x with
    | out r =>
      show iter f s = some r
      exact iter_some.2 ⟨1, by unfold iterN; rw [hf]; rfl⟩
    | go s' =>
      show iter f s = iter f s'
      cases h : iter f s' with
      | some r =>
        obtain ⟨n, hn⟩ := iter_some.1 h
        exact iter_some.2 ⟨n + 1, by unfold iterN; rw [hf]; exact hn⟩
      | none =>
        cases h' : iter f s with
        | none => rfl
        | some r =>
          obtain ⟨n, hn⟩ := iter_some.1 h'
          cases n with
          | zero => cases hn
          | succ n =>
            unfold iterN at hn
            rw [hf] at hn
            rw [iter_some.2 ⟨n, hn⟩] at h
            cases h

/-- Rounds over the numbers from k on, m of them. -/
def eachN {σ ρ : Type} (f : Nat → σ → Option (Lr σ ρ)) (e : σ → ρ) : Nat → Nat → σ → Option ρ
  | 0, _, s => some (e s)
  | m + 1, k, s => (f k s).bind fun r => r.on (eachN f e m (k + 1)) some

section
variable {α β : Type}
theorem bind_some' {x : Option α} {f : α → Option β} {r : β} (h : x.bind f = some r) : ∃ y, x = some y ∧ f y = some r := Option.bind_eq_some_iff.1 h
theorem xg_some {p : Prop} [Decidable p] {x : Option α} {r : α} (h : xg p x = some r) : p ∧ x = some r := by
  unfold xg at h
  split at h
  · exact ⟨by assumption, h⟩
  · cases h
theorem xif_t {b : Bool} {x y : Option α} {r : α} (hb : b = true) (h : cond b x y = some r) : x = some r := by rw [hb] at h; exact h
theorem xif_f {b : Bool} {x y : Option α} {r : α} (hb : b = false) (h : cond b x y = some r) : y = some r := by rw [hb] at h; exact h
theorem iter_run {σ ρ : Type} {f : σ → Option (Lr σ ρ)} {s : σ} {r : ρ} (h : iter f s = some r) : ∃ n, iterN f n s = some r := iter_some.1 h
theorem iterN_step {σ ρ : Type} {f : σ → Option (Lr σ ρ)} {n : Nat} {s : σ} {r : ρ} (h : iterN f n s = some r) : ∃ m z, n = m + 1 ∧ f s = some z ∧ z.on (iterN f m) some = some r := by
  cases n with
  | zero => cases h
  | succ m =>
    obtain ⟨z, h1, h2⟩ := bind_some' (x := f s) h
    exact ⟨m, z, rfl, h1, h2⟩
theorem eachN_step {σ ρ : Type} {f : Nat → σ → Option (Lr σ ρ)} {e : σ → ρ} {m k n : Nat} {s : σ} {r : ρ} (h : eachN f e m k s = some r) (hk : k + m = n) (hn : (k : Int) < (n : Int)) : ∃ m' z, m = m' + 1 ∧ k + 1 + m' = n ∧ f k s = some z ∧ z.on (eachN f e m' (k + 1)) some = some r := by
  cases m with
  | zero => omega
  | succ m =>
    obtain ⟨z, h1, h2⟩ := bind_some' (x := f k s) h
    exact ⟨m, z, rfl, by omega, h1, h2⟩
theorem eachN_end {σ ρ : Type} {f : Nat → σ → Option (Lr σ ρ)} {e : σ → ρ} {m k n : Nat} {s : σ} {r : ρ} (h : eachN f e m k s = some r) (hk : k + m = n) (hn : ¬ (k : Int) < (n : Int)) : e s = r := by
  have : m = 0 := by omega
  subst this
  exact Option.some.inj h
end

/-- Two ghosts as one. -/
@[reducible] def un {α β : Type} {γ : Sort _} (f : α → β → γ) : α × β → γ
  | (a, b) => f a b

def inI (x : Int) : Prop := -9223372036854775808 ≤ x ∧ x ≤ 9223372036854775807
instance (x : Int) : Decidable (inI x) := inferInstanceAs (Decidable (_ ∧ _))

-- Calls

section
variable {P : Program} {w : World} {w0 : Base} {l m : List As} {rs : List Rd} {f : FuncId} {vs : List Value}

theorem St.back {F F1 F2 S : Bs} {w' : World} {l' : List As} {rs1 : List Rd} (h1 : RelX w0.X w0.w w) (hb : ∀ b, w0.S b → b < w0.w.heap.size ∧ ¬ w0.X b) (g2 : Sep m F2 w) (g3 : ∀ b, F1 b → ¬ F2 b) (g4 : ∀ b, F1 b → F b) (g5 : ∀ b, F2 b → F b)
    (h3 : ∀ b, F b → w0.w.heap.size ≤ b ∨ w0.X b) (h4 : ∀ r ∈ rs, r.ok (fun b => (w0.S b ∨ w0.X b ∨ w0.w.heap.size ≤ b) ∧ b < w.heap.size ∧ ¬ F b) w) (G : Gives F1 S w l' rs1 w') (hS : rs1 = [] ∨ ∀ b, S b → (w0.S b ∨ w0.X b ∨ w0.w.heap.size ≤ b) ∧ ¬ F2 b) : St w0 (l' ++ m) (rs1 ++ rs) w' := by
  obtain ⟨k2, F', k1, k3, k4⟩ := G
  have g2' : Sep m F2 w' := g2.loc fun b hb => k2.block b (g2.lt b hb) fun h' => g3 b h' hb
  have hd : ∀ b, F' b → ¬ F2 b := fun b hb h' => by
    rcases k3 b hb with h'' | h''
    · have := g2.lt b h'; omega
    · exact g3 b h'' h'
  refine ⟨h1.step k2 fun b hb => h3 b (g4 b hb), hb, _, Sep.join k1 g2' hd, fun b hb' => ?_, fun r hr => ?_⟩
  · rcases hb' with hb' | hb'
    · rcases k3 b hb' with h' | h'
      · have := h1.size; exact .inl (by omega)
      · exact h3 b (g4 b h')
    · exact h3 b (g5 b hb')
  · rcases List.mem_append.1 hr with hr | hr
    · rcases hS with rfl | hS
      · cases hr
      · refine r.mono (fun b hb' => ⟨⟨?_, hb'.2.1, fun h' => ?_⟩, rfl⟩) (k4 r hr)
        · rcases hb'.1 with h' | h' | h'
          · exact (hS b h').1
          · exact .inr ((h3 b (g4 b h')).elim .inr .inl)
          · have := h1.size; exact .inr (.inr (by omega))
        · rcases h' with h' | h'
          · exact hb'.2.2 h'
          · rcases hb'.1 with h'' | h'' | h''
            · exact (hS b h'').2 h'
            · exact g3 b h'' h'
            · have := g2.lt b h'; omega
    · refine r.mono (fun b hb' => ⟨⟨hb'.1, Nat.lt_of_lt_of_le hb'.2.1 k2.size, fun h' => ?_⟩, k2.block b hb'.2.1 fun e => hb'.2.2 (g4 b e)⟩) (h4 r hr)
      rcases h' with h' | h'
      · rcases k3 b h' with h'' | h''
        · have := hb'.2.1; omega
        · exact hb'.2.2 (g4 b h'')
      · exact hb'.2.2 (g5 b h')

/-- A call: the things in front are lent; what is owned besides may be read. -/
theorem St.callO {Y : Type} {val : Y → Value} {l' : Y → List As} (h : St w0 (l ++ m) rs w)
    (hc : ∀ X S : Bs, Sep l X w → (∀ b, S b → b < w.heap.size ∧ ¬ X b) → (∀ r ∈ rs, r.ok S w) → (∀ a ∈ m, ∃ F, (∀ b, F b → S b) ∧ a.ok F w) → Ret P f vs w (fun u w' => ∃ y, u = val y ∧ Gives X S w (l' y) [] w')) :
    Ret P f vs w (fun u w' => ∃ y, u = val y ∧ St w0 (l' y ++ m) rs w') := by
  obtain ⟨h1, hb, F, h2, h3, h4⟩ := h
  obtain ⟨F1, F2, g1, g2, g3, g4, g5⟩ := h2.split
  refine (hc F1 (fun b => b < w.heap.size ∧ ¬ F1 b) g1 (fun _ h => h) (fun r hr => r.mono (fun b hb' => ⟨⟨hb'.2.1, fun h' => hb'.2.2 (g4 b h')⟩, rfl⟩) (h4 r hr)) (fun a ha => ?_)).mono fun u w' ⟨y, hu, G⟩ => ⟨y, hu, St.back h1 hb g2 g3 g4 g5 h3 h4 G (.inl rfl)⟩
  obtain ⟨F', h6, h7⟩ := g2.mem ha
  exact ⟨F', fun b hb' => ⟨g2.lt b (h6 b hb'), fun h' => g3 b h' (h6 b hb')⟩, h7⟩

/-- Nothing is lent: nothing old has changed. -/
theorem Gives.rel {S : Bs} {w' : World} (h : Gives (fun _ => False) S w m rs w') : Rel w w' := h.relx.rel fun _ h => h

/-- A call to which nothing is lent, in a drawn region. -/
theorem St.callF {Y : Type} {val : Y → Value} {l' : Y → List As} (h : St w0 m rs w)
    (hc : ∀ X S : Bs, Sep [] X w → (∀ b, S b → b < w.heap.size ∧ ¬ X b) → (∀ r ∈ rs, r.ok S w) → (∀ a ∈ m, ∃ F, (∀ b, F b → S b) ∧ a.ok F w) → Ret P f vs w (fun u w' => ∃ y, u = val y ∧ Gives X S w (l' y) [] w')) :
    Ret P f vs w (fun u w' => Rel w w' ∧ ∃ y, u = val y ∧ St w0 (l' y ++ m) rs w') := by
  obtain ⟨h1, hb, F, h2, h3, h4⟩ := h
  refine (hc (fun _ => False) (fun b => b < w.heap.size) (fun _ h => h.elim) (fun _ h => ⟨h, fun h => h⟩) (fun r hr => r.mono (fun b hb' => ⟨hb'.2.1, rfl⟩) (h4 r hr)) (fun a ha => ?_)).mono fun u w' ⟨y, hu, G⟩ => ⟨G.rel, y, hu, St.back (F1 := fun _ => False) h1 hb h2 (fun _ h => h.elim) (fun _ h => h.elim) (fun _ h => h) h3 h4 G (.inl rfl)⟩
  obtain ⟨F', h6, h7⟩ := h2.mem ha
  exact ⟨F', fun b hb' => h2.lt b (h6 b hb'), h7⟩

theorem St.callFR {Y : Type} {val : Y → Value} {l' : Y → List As} {rs1 : Y → List Rd} (h : St w0 m rs w)
    (hc : ∀ X S : Bs, Sep [] X w → (∀ b, S b → b < w.heap.size ∧ ¬ X b) → (∀ r ∈ rs, r.ok S w) → Ret P f vs w (fun u w' => ∃ y, u = val y ∧ Gives X S w (l' y) (rs1 y) w')) :
    Ret P f vs w (fun u w' => Rel w w' ∧ ∃ y, u = val y ∧ St w0 (l' y ++ m) (rs1 y ++ rs) w') := by
  obtain ⟨h1, hb, F, h2, h3, h4⟩ := h
  exact (hc (fun _ => False) (fun b => (w0.S b ∨ w0.X b ∨ w0.w.heap.size ≤ b) ∧ b < w.heap.size ∧ ¬ F b) (fun _ h => h.elim) (fun b hb' => ⟨hb'.2.1, fun h' => h'⟩) h4).mono fun u w' ⟨y, hu, G⟩ => ⟨G.rel, y, hu, St.back (F1 := fun _ => False) h1 hb h2 (fun _ h => h.elim) (fun _ h => h.elim) (fun _ h => h) h3 h4 G (.inr fun b hb' => ⟨hb'.1, hb'.2.2⟩)⟩

/-- A call that gives a number, a truth value, a string. -/
theorem St.callV {v : Value} (h : St w0 m rs w)
    (hc : ∀ X S : Bs, Sep [] X w → (∀ b, S b → b < w.heap.size ∧ ¬ X b) → (∀ r ∈ rs, r.ok S w) → (∀ a ∈ m, ∃ F, (∀ b, F b → S b) ∧ a.ok F w) → Ret P f vs w (fun u w' => ∃ _ : Unit, u = v ∧ Gives X S w [] [] w')) :
    Ret P f vs w (fun u w' => u = v ∧ Rel w w') :=
  (St.callF (Y := Unit) (val := fun _ => v) (l' := fun _ => []) h hc).mono fun _ _ ⟨hr, _, hu, _⟩ => ⟨hu, hr⟩

theorem seeA {S : Bs} {c : Ce} {v : Value} (h : ∀ a ∈ m, ∃ F, (∀ b, F b → S b) ∧ a.ok F w) (hm : oC c v ∈ m) : c.rd S w v := by
  obtain ⟨F, hF, hk⟩ := h _ hm
  exact c.mono (fun b hb => ⟨hF b hb, rfl⟩) (c.seen hk)
theorem rd_nil {S : Bs} (k : Nat) {T : Type} (f : T → List Ce) : (cSl k f []).rd S w (.slice none 0 0) := ⟨none, 0, rfl, Nat.le_refl _, by simp [maxLen], fun h => absurd rfl h⟩

end
end Go.Proofs.YtjbonmmmcnpjiaaGreatDoor
namespace Go.Proofs.YtjbonmmmcnpjiaaGreatDoor
open Go.RowKit

theorem set_one {A : Type} {l : List A} {q : Nat} {a : A} (h : q < l.length) : l.set q a = l.take q ++ [a] ++ l.drop (q + 1) := by
  rw [List.set_eq_take_append_cons_drop, if_pos h]; simp

theorem zipC_get : ∀ {q : Nat} {cs : List Ce} {vs : List Value} {c : Ce} {v : Value}, cs[q]? = some c → vs[q]? = some v → (zipC cs vs)[q]? = some (oC c v)
  | 0, c :: cs, v :: vs, _, _, h1, h2 => by simp at h1 h2; subst h1; subst h2; rfl
  | q + 1, c :: cs, v :: vs, _, _, h1, h2 => by simp only [zipC, List.getElem?_cons_succ]; exact zipC_get (by simpa using h1) (by simpa using h2)
  | _, [], _, _, _, h1, _ => by simp at h1
  | _, _ :: _, [], _, _, _, h2 => by simp at h2

theorem zipC_len : ∀ {cs : List Ce} {vs : List Value}, cs.length = vs.length → (zipC cs vs).length = vs.length
  | [], [], _ => rfl
  | [], _ :: _, h => by simp at h
  | _ :: _, [], h => by simp at h
  | _ :: _, _ :: _, h => by simp [zipC]; exact zipC_len (by simpa using h)

theorem perm_erase {A : Type} {l : List A} {q : Nat} {a : A} (h : l[q]? = some a) : l.Perm (a :: l.eraseIdx q) := by
  obtain ⟨hq, rfl⟩ := List.getElem?_eq_some_iff.1 h
  rw [List.eraseIdx_eq_take_drop_succ]
  have h2 : l = l.take q ++ l[q] :: l.drop (q + 1) := by simp
  conv => lhs; rw [h2]
  exact List.perm_middle

theorem perm_put {A : Type} {l : List A} {q : Nat} {a : A} (h : q < l.length) : (a :: l.eraseIdx q).Perm (l.set q a) := by
  rw [List.eraseIdx_eq_take_drop_succ, set_one h, List.append_assoc]
  exact List.perm_middle.symm

/-- A row but for one cell, in which u stands. -/
def oHo (k : Nat) {T : Type} (f : T → List Ce) (L : List T) (v : Value) (q : Nat) (u : Value) : As where
  ok := fun F w => ∃ xs : List Value, (L.flatMap f).length = xs.length ∧ xs[q]? = some u ∧ Sep (oRow k v L.length xs :: (zipC (L.flatMap f) xs).eraseIdx q) F w
  loc := fun h ⟨xs, h1, h2, h3⟩ => ⟨xs, h1, h2, h3.loc h⟩
  lt := fun ⟨_, _, _, h3⟩ hb => h3.lt _ hb
  up := fun hs hl ⟨xs, h1, h2, h3⟩ => ⟨xs, h1, h2, h3.up hs hl⟩

section
variable {w0 : Base} {w w' : World} {m l l' own : List As} {rs : List Rd} {c c' : Ce} {v : Value} {S : Bs}
variable {T : Type} {k : Nat} {f : T → List Ce} {L : List T}

theorem row_cell {F : Bs} {n : Nat} {xs : List Value} (h : (oRow k v n xs).ok F w) {j : Nat} {u : Value} (hj : xs[j]? = some u) : w.cell? (eaddr v j) = some u := by
  obtain ⟨_, gl, gr⟩ := h
  rcases gr with ⟨rfl, hn⟩ | ⟨b, off, cap, cur, e, rfl, hb, hg, _, _, _, htk⟩
  · rw [hn, Nat.zero_mul] at gl
    rw [List.eq_nil_of_length_eq_zero gl] at hj
    simp at hj
  · rw [← htk, List.getElem?_take] at hj
    split at hj
    · rw [List.getElem?_drop, Array.getElem?_toList] at hj
      simp [eaddr, World.cell?, hg, hj]
    · cases hj

/-- An element's own thing is taken out. -/
theorem St.open [Inhabited T] {vl : List Vi} {i j : Nat} {s : Sv} (h : St w0 (oV (oC (cSl k f L) v) vl :: m) rs w) (hv : vC (eaddr v (i * k + j)) s.v ∈ vl) (hf : ∀ x, (f x).length = k) (hi : i < L.length) (hc : (f (el L i))[j]? = some c) :
    St w0 (oC c s.v :: oHo k f L v (i * k + j) s.v :: m) rs w := by
  refine St.iso (l := [oV (oC (cSl k f L) v) vl]) (l' := [oC c s.v, oHo k f L v (i * k + j) s.v]) h fun F ⟨h0, F1, F2, ⟨⟨xs, g1, g2⟩, gv⟩, _, _, h4, _⟩ => ?_
  have hj : j < k := by
    have := (List.getElem?_eq_some_iff.1 hc).1
    rwa [hf] at this
  have hq : (L.flatMap f)[i * k + j]? = some c := by rw [flatMap_el hf L i j hi hj]; exact hc
  have hlt : i * k + j < xs.length := by rw [← g1]; exact (List.getElem?_eq_some_iff.1 hq).1
  have hcell : w.cell? (eaddr v (i * k + j)) = some s.v := (gv _ hv).2
  obtain ⟨_, G1, _, k1, _⟩ := id g2
  have hx : xs[i * k + j]? = some s.v := by
    have := row_cell k1 (List.getElem?_eq_getElem hlt)
    rw [this] at hcell
    rw [List.getElem?_eq_getElem hlt]; exact hcell
  have hp := perm_erase (zipC_get hq hx)
  have g3 : Sep (oC c s.v :: oRow k v L.length xs :: (zipC (L.flatMap f) xs).eraseIdx (i * k + j)) F1 w := g2.perm ((hp.cons _).trans (List.Perm.swap ..))
  obtain ⟨q0, Q1, Q2, q1, q2, q3, q4, q5⟩ := g3
  exact ⟨h0, Q1, Q2, q1, ⟨q2.lt, Q2, fun _ => False, ⟨xs, g1, hx, q2⟩, (fun _ h => h.elim), (fun _ _ h => h), (fun _ h => h), fun _ h => h.elim⟩, q3, fun b hb => h4 b (q4 b hb), fun b hb => h4 b (q5 b hb)⟩

/-- It is put back, changed. -/
theorem St.close [Inhabited T] {i j : Nat} {u : Value} (a : T) (h : St w0 (oC c' u :: oHo k f L v (i * k + j) u :: m) rs w) (hf : ∀ x, (f x).length = k) (hi : i < L.length) (hj : Nat.blt j k = true) (ha : f a = (f (el L i)).set j c') : St w0 (oC (cSl k f (L.set i a)) v :: m) rs w := by
  refine St.iso (l := [oC c' u, oHo k f L v (i * k + j) u]) (l' := [oC (cSl k f (L.set i a)) v]) h fun F ⟨h0, F1, F2, h1, ⟨_, G1, _, ⟨xs, g1, g2, g3⟩, _, _, g5, _⟩, h3, h4, h5⟩ => ?_
  have hj' : j < k := by simpa using hj
  have g3' := g3.up (F' := F2) g5 (fun b hb => h0 b (h5 b hb))
  obtain ⟨hlt, hx⟩ := List.getElem?_eq_some_iff.1 g2
  have hcs : (L.set i a).flatMap f = (L.flatMap f).set (i * k + j) c' := flatMap_upd hf L i j c' a hi hj' ha
  have hz : zipC ((L.set i a).flatMap f) xs = (zipC (L.flatMap f) xs).set (i * k + j) (oC c' u) := by
    have key : ∀ (q : Nat) (cs : List Ce) (vs : List Value), vs[q]? = some u → zipC (cs.set q c') vs = (zipC cs vs).set q (oC c' u) := by
      intro q
      induction q with
      | zero => intro cs vs hv; cases cs <;> cases vs <;> simp_all [zipC]
      | succ q ih => intro cs vs hv; cases cs <;> cases vs <;> simp_all [zipC]
    rw [hcs, key _ _ _ g2]
  have g6 : Sep (oRow k v L.length xs :: zipC ((L.set i a).flatMap f) xs) F w := by
    have g7 : Sep (oC c' u :: oRow k v L.length xs :: (zipC (L.flatMap f) xs).eraseIdx (i * k + j)) F w := ⟨h0, F1, F2, h1, g3', h3, h4, h5⟩
    rw [hz]
    exact g7.perm ((List.Perm.swap ..).trans ((perm_put (by rw [zipC_len g1]; exact hlt)).cons _))
  exact ⟨h0, F, fun _ => False, ⟨xs, by rw [hcs, List.length_set, g1], by rw [List.length_set]; exact g6⟩, (fun _ h => h.elim), (fun _ _ h => h), (fun _ h => h), fun _ h => h.elim⟩

-- Rows whose elements' lists are only read

theorem St.more {r : Rd} (h : St w0 m rs w) (hr : ∀ S, (∀ r ∈ rs, r.ok S w) → r.ok S w) : St w0 m (r :: rs) w := by
  obtain ⟨h1, hb, F, h2, h3, h4⟩ := h
  refine ⟨h1, hb, F, h2, h3, fun r' hr' => ?_⟩
  rcases List.mem_cons.1 hr' with rfl | hr'
  · exact hr _ h4
  · exact h4 r' hr'

end

section
variable {P : Program} {n : Nat} {ops : Array Oper} {Q : Post} {env : Env} {w : World} {w0 : Base} {rest : List Oper} {ty : TypeId} {pos : String} {af : Array Edge} {m own : List As} {rs : List Rd}
variable {T : Type} {k : Nat} {f : T → List Ce} {L : List T}

/-- A store into an element of a row that the call owns. -/
theorem x_stE {K : World → Prop} [Inhabited T] {t : TypeId} {x y : Operand} {s : Sv} {u : Value} {size bytes : Nat} {z : Value} {i j : Nat} (a : T) (cs : List Ce) (hs : Sz P t size bytes z) (hf : ∀ x, (f x).length = k) (hx : ev env x = some (.pointer (some (eaddr s.v (i * k + j))))) (hy : ev env y = some u) (hi : i < L.length)
    (hu : u.cells.size = size) (hl : cs.length = u.cells.toList.length) (hj : Nat.ble (j + u.cells.toList.length) k = true) (hone : u.cells.toList.all (·.oneCell') = true) (ha : f a = (f (el L i)).take j ++ cs ++ (f (el L i)).drop (j + u.cells.toList.length)) (hz : ∀ w, Z w own (zipC cs u.cells.toList))
    (hM : St w0 (oC (cSl k f L) s.v :: (own ++ m)) rs w) (h : ∀ w', St w0 (oC (cSl k f (L.set i a)) s.v :: m) rs w' → K w') : ExU P n env w ⟨none, .store t x y, ty, pos, af, none⟩ K := by
  obtain ⟨w', hr, h1⟩ := St.stE (ty := ty) (pos := pos) (af := af) a cs hs hf hx hy hi hu hl hj hone ha hz hM
  exact ⟨w', hr, h w' h1⟩

/-- A store into a box. -/
theorem x_stB {K : World → Prop} {t : TypeId} {x y : Operand} {b j : Nat} {cs : Array Value} {e : TypeId} {u : Value} {size bytes : Nat} {z : Value} (cs' : Array Value) (hs : Sz P t size bytes z) (hx : ev env x = some (.pointer (some ⟨b, j, none⟩))) (hy : ev env y = some u) (hu : u.cells.size = size) (hone : u.cells.toList.all (·.oneCell') = true)
    (hj : Nat.ble (j + u.cells.toList.length) cs.size = true) (hc : cs'.toList = cs.toList.take j ++ u.cells.toList ++ cs.toList.drop (j + u.cells.toList.length)) (hM : St w0 (oBox b cs e :: m) rs w)
    (h : ∀ w', St w0 (oBox b cs' e :: m) rs w' → K w') : ExU P n env w ⟨none, .store t x y, ty, pos, af, none⟩ K := by
  obtain ⟨w', hr, h1⟩ := St.stB (ty := ty) (pos := pos) (af := af) (cs' := cs') hs hx hy hu hone hj hc hM
  exact ⟨w', hr, h w' h1⟩

end
end Go.Proofs.YtjbonmmmcnpjiaaGreatDoor
namespace Go.Proofs.YtjbonmmmcnpjiaaGreatDoor
open Go.RowKit

/-- The nil slice. -/
def nS : Sv := ⟨none, 0, 0⟩

section
variable {w0 : Base} {w w' : World} {m l l' own : List As} {rs rs' : List Rd} {c c' : Ce} {v : Value} {S : Bs}
variable {T : Type} {k : Nat} {f : T → List Ce} {L : List T}

theorem St.nil0 (h : St w0 m rs w) (k : Nat) (f : T → List Ce) : St w0 (oC (cSl k f ([] : List T)) nS.v :: m) rs w := h.nil k f
theorem St.nilR0 (h : St w0 m rs w) (k : Nat) (f : T → List Ce) : St w0 m (rV nS.v (cSl k f ([] : List T)) :: rs) w := h.nilR k f

theorem St.fewer (h : St w0 m rs w) (hs : ∀ r ∈ rs', r ∈ rs) : St w0 m rs' w := by
  obtain ⟨h1, hb, F, h2, h3, h4⟩ := h
  exact ⟨h1, hb, F, h2, h3, fun r hr => h4 r (hs r hr)⟩
theorem rsN : ∀ r ∈ ([] : List Rd), r ∈ rs := fun _ h => by cases h
theorem rsC {a : Rd} (h : a ∈ rs) (t : ∀ r ∈ rs', r ∈ rs) : ∀ r ∈ a :: rs', r ∈ rs := fun r hr => by
  rcases List.mem_cons.1 hr with rfl | hr
  · exact h
  · exact t r hr

end

section
variable {P : Program} {n : Nat} {env : Env} {w : World} {d : Option Tmp} {ty : TypeId} {pos : String} {af : Array Edge} {g : Option (Nat × Bool)} {Q : Post}

theorem r_mkfn {f : FuncId} {caps : List Operand} {vs : List Value} (h : evs env caps = some vs) : Runs P n env w ⟨d, .makeFunc (.func f) #[] caps.toArray, ty, pos, af, g⟩ (.func (.func f) #[] vs.toArray) w := fun a ha => by
  have h1 := ha.evs _ _ h
  simp only [execOp, Instr.makeFunc, List.map_toArray, h1, Sem.run_bind, Sem.run_pure, Result.andThen_ok]
  rfl

theorem r_max {x y : Operand} {t : TypeId} {i j : Int} {td : TypeDesc} (_ : P.underlying t = some td) (hx : ev env x = some (.int .i64 i)) (hy : ev env y = some (.int .i64 j)) :
    Runs P n env w ⟨d, .call { callee := .builtin .max, args := #[x, y], argTypes := #[t, t] }, ty, pos, af, g⟩ (.int .i64 (max i j)) w := fun a ha => by
  have : (if i < j then j else i) = max i j := by split <;> omega
  simp [execOp, resolve, invoke, builtin, ha.ev hx, ha.ev hy, Builtin.max_, Builtin.max2, this]
theorem u8_cvt (x : UInt8) : IntKind.i64.wrap (x.toNat : Int) = (x.toNat : Int) := i64_in (by have := x.toNat_lt; omega)

theorem lp_end {α : Type} {E : α → Env} {Φ : α → World → Prop} {μ : α → Nat} {x : α} (y : α) (hm : μ y < μ x) (hc : Cov env (E y)) (h : Φ y w) : lp E Φ μ x Q .normal env w := ⟨y, hm, hc, h⟩

theorem rv_box {w0 : Base} {m : List As} {rs : List Rd} {a t b : Nat} {fs : Array Field} {size bytes : Nat} {z : Value} {cs : List Value} {e : TypeId} (ht : P.underlying t = some (.struct fs)) (hs : Sz P t size bytes z) (hl : cs.length = size) (hx : lk env a = some (.pointer (some ⟨b, 0, none⟩)))
    (hM : St w0 m rs w) (hm : oBox b cs.toArray e ∈ m) : RV P w env (.cell a t) (.agg cs.toArray) := by
  refine ⟨_, hx, ?_⟩
  have h1 := run_loadCells_list (P := P) (w := w) ⟨b, 0, none⟩ cs (fun j u hj => by rw [Addr.add_lit, Nat.zero_add]; exact box_cell hM hm (by simpa using hj))
  rw [hl] at h1
  simp [loadVar, isAgg, run_underlying ht, hs.run, h1]

end
end Go.Proofs.YtjbonmmmcnpjiaaGreatDoor
namespace Go.Proofs.YtjbonmmmcnpjiaaGreatDoor
open Go.RowKit

section
variable {P : Program} {ops : Array Oper} {QA : Act → World → Prop}

def setAll (listed : Array Bool) : List (Nat × Nat) → Array Bool
  | [] => listed
  | k :: ks => setAll (listed.setIfInBounds k.1 true) ks

end

section
variable {P : Program} {n : Nat} {l : List Oper} {Q : Post} {env : Env} {w : World} {listed : Array Bool}

/-- A state in the middle of a code. -/
theorem wc_mid {c : Code} {α : Type} (E : α → Env) (Φ : α → World → Prop) (h1 : WC P n c (fun e env w' => e = .normal ∧ ∃ x, Cov env (E x) ∧ Φ x w') env w) (h2 : ∀ x w', Φ x w' → Q .normal (E x) w') : WC P n c Q env w := fun a ha =>
  wp_mono (h1 a ha) fun e a' w' hq => by
    obtain ⟨env', ha', he, x, hc, hΦ⟩ := hq
    subst he
    exact ⟨E x, ha'.lose hc.sub, h2 x w' hΦ⟩
theorem mid_c {α : Type} {E : α → Env} {Φ : α → World → Prop} (x : α) (hc : Cov env (E x)) (hΦ : Φ x w) : (fun (e : Exit) env w' => e = .normal ∧ ∃ x, Cov env (E x) ∧ Φ x w') .normal env w := ⟨rfl, x, hc, hΦ⟩
end

section
variable {P : Program} {n : Nat} {env : Env} {w : World} {ty : TypeId} {pos : String} {af : Array Edge} {w0 : Base} {m : List As} {rs : List Rd} {T : Type} {f : T → List Ce}

end

section
variable {P : Program} {n : Nat} {env : Env} {w : World} {ty : TypeId} {pos : String} {af : Array Edge} {d : Option Tmp} {g : Option (Nat × Bool)}
end
end Go.Proofs.YtjbonmmmcnpjiaaGreatDoor
namespace Go.Proofs.YtjbonmmmcnpjiaaGreatDoor
open Go.RowKit

def sget (s : ByteArray) (i : Nat) : UInt8 := (s[i]?).getD 0
section
variable {P : Program} {n : Nat} {env : Env} {w : World} {ty : TypeId} {pos : String} {af : Array Edge} {d : Option Tmp} {g : Option (Nat × Bool)}
theorem r_sidx {x i : Operand} {t : TypeId} {s : ByteArray} {m : Int} (ht : P.underlying t = some .string) (hx : ev env x = some (.string s)) (hi : ev env i = some (.int .i64 m)) (h : 0 ≤ m ∧ m < (s.size : Int)) :
    Runs P n env w ⟨d, .index t x i, ty, pos, af, g⟩ (.int .u8 ((sget s m.toNat).toNat : Int)) w := fun a ha => by
  have hk : m.toNat < s.size := by omega
  have hs : s[m.toNat]? = some (sget s m.toNat) := by unfold sget; simp [hk]
  simp [execOp, ha.ev hx, ha.ev hi, Instr.index, asIntOf, run_underlying ht, h.1, hs]
theorem r_adds {x y : Operand} {t u : TypeId} {s r : ByteArray} (hx : ev env x = some (.string s)) (hy : ev env y = some (.string r)) (h : s.size + r.size ≤ 9223372036854775807) :
    Runs P n env w ⟨d, .binOp .add t x y u, ty, pos, af, g⟩ (.string (s ++ r)) w := fun a ha => by
  have h2 : ¬ IntKind.i64.max < ((s.size : Int) + (r.size : Int)) := by
    have h1 : IntKind.i64.max = 9223372036854775807 := rfl
    omega
  simp [execOp, ha.ev hx, ha.ev hy, eqGuard, binOp, Op.stringOp, h2]; omega
theorem ba_eq (a b : ByteArray) : (a.toList == b.toList) = decide (a = b) := by
  rw [ByteArray.toList_eq, ByteArray.toList_eq]
  by_cases h : a = b
  · subst h; simp
  · rw [decide_eq_false h]
    refine beq_eq_false_iff_ne.2 fun e => h ?_
    have := Array.toList_inj.1 e
    cases a; cases b; simp only at this; rw [this]
theorem r_eqls {x y : Operand} {t u : TypeId} {s r : ByteArray} (hx : ev env x = some (.string s)) (hy : ev env y = some (.string r)) :
    Runs P n env w ⟨d, .binOp .eql t x y u, ty, pos, af, g⟩ (.bool (decide (s = r))) w := fun a ha => by
  rw [← ba_eq]
  simp [execOp, ha.ev hx, ha.ev hy, eqGuard, binOp, Op.stringOp]
theorem r_neqs {x y : Operand} {t u : TypeId} {s r : ByteArray} (hx : ev env x = some (.string s)) (hy : ev env y = some (.string r)) :
    Runs P n env w ⟨d, .binOp .neq t x y u, ty, pos, af, g⟩ (.bool (!decide (s = r))) w := fun a ha => by
  rw [← ba_eq]
  simp [execOp, ha.ev hx, ha.ev hy, eqGuard, binOp, Op.stringOp]
/-- Texts in order. -/
def sLt (a b : ByteArray) : Bool := Op.bytesLess a.toList b.toList
theorem r_geqs {x y : Operand} {t u : TypeId} {s r : ByteArray} (hx : ev env x = some (.string s)) (hy : ev env y = some (.string r)) :
    Runs P n env w ⟨d, .binOp .geq t x y u, ty, pos, af, g⟩ (.bool (!sLt s r)) w := fun a ha => by
  simp [execOp, ha.ev hx, ha.ev hy, eqGuard, binOp, Op.stringOp, sLt]
end
end Go.Proofs.YtjbonmmmcnpjiaaGreatDoor
