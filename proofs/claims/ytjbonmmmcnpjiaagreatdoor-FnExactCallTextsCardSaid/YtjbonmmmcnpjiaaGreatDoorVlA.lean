/- The verification layer, part A: a frame is seen through a short list of slots; rules for code, regions and loops over such lists. No condition. -/
import Derived.WalkKit
import Derived.Orders
import Derived.Still
namespace Go.Proofs.YtjbonmmmcnpjiaaGreatDoor
open Go.RowKit

/-- Slots that are known: number and value. -/
abbrev Env := List (Nat × Value)

def lk : Env → Nat → Option Value
  | [], _ => none
  | (k, v) :: r, t => bif Nat.beq k t then some v else lk r t

def ev (env : Env) : Operand → Option Value
  | .tmp t => lk env t
  | .const v => some v
  | .global g => some (.pointer (some ⟨g, 0, none⟩))
  | .func f => some (.func (.func f) #[] #[])

/-- The frame holds what the list says. -/
structure Has (n : Nat) (a : Act) (env : Env) : Prop where
  df : a.defers = []
  sz : a.tmps.size = n
  at' : ∀ t v, lk env t = some v → a.tmps[t]? = some v

theorem Has.ev {n : Nat} {a : Act} {env : Env} (h : Has n a env) {x : Operand} {v : Value} (hx : ev env x = some v) : a.eval x = v := by
  cases x with
  | tmp t =>
    have h1 := h.at' t v hx
    simp only [Act.eval, Array.getD_eq_getD_getElem?, h1, Option.getD_some]
  | const u => simp only [Go.Proofs.YtjbonmmmcnpjiaaGreatDoor.ev, Option.some.injEq] at hx; simp [Act.eval, hx]
  | global g => simp only [Go.Proofs.YtjbonmmmcnpjiaaGreatDoor.ev, Option.some.injEq] at hx; simp [Act.eval, hx]
  | func f => simp only [Go.Proofs.YtjbonmmmcnpjiaaGreatDoor.ev, Option.some.injEq] at hx; simp [Act.eval, hx]

theorem beq_ne {a b : Nat} (h : a ≠ b) : Nat.beq a b = false := by
  cases hb : Nat.beq a b with
  | false => rfl
  | true => exact absurd (Nat.eq_of_beq_eq_true hb) h

theorem Has.put {n : Nat} {a : Act} {env : Env} (h : Has n a env) {d : Nat} (hd : Nat.blt d n = true) (v : Value) : Has n (a.put (some d) v) ((d, v) :: env) := by
  have hd' : d < a.tmps.size := by rw [h.sz]; simpa using hd
  refine ⟨h.df, by simp [Act.put, h.sz], fun t u ht => ?_⟩
  simp only [lk] at ht
  by_cases e : d = t
  · subst e
    simp at ht
    subst ht
    simp [Act.put, hd']
  · rw [beq_ne e] at ht
    simp only [Act.put, Array.getElem?_setIfInBounds_ne e]
    exact h.at' t u ht

theorem Has.skip {n : Nat} {a : Act} {env : Env} (h : Has n a env) (v : Value) : Has n (a.put none v) env := h

/-- An empty place in the list: a slot whose value is no longer known. -/
theorem Has.lose {n : Nat} {a : Act} {env : Env} (h : Has n a env) {env' : Env} (hc : ∀ t v, lk env' t = some v → lk env t = some v) : Has n a env' :=
  ⟨h.df, h.sz, fun t v ht => h.at' t v (hc t v ht)⟩

def Cov (env : Env) : Env → Prop
  | [] => True
  | (t, v) :: r => lk env t = some v ∧ Cov env r

theorem Cov.sub {env : Env} : ∀ {env' : Env}, Cov env env' → ∀ t v, lk env' t = some v → lk env t = some v
  | [], _, t, v, h => by cases h
  | (k, u) :: r, h, t, v, ht => by
    simp only [lk] at ht
    by_cases e : k = t
    · subst e; simp at ht; subst ht; exact h.1
    · rw [beq_ne e] at ht
      exact h.2.sub t v ht

abbrev Post := Exit → Env → World → Prop

def lift (n : Nat) (Q : Post) : Exit → Act → World → Prop := fun e a w => ∃ env, Has n a env ∧ Q e env w

/-- A list of operations (plain order). -/
def WL (P : Program) (n : Nat) (ops : Array Oper) (l : List Oper) (Q : Post) (env : Env) (w : World) : Prop :=
  ∀ a, Has n a env → wpList P ops (lift n Q) l a w

def WC (P : Program) (n : Nat) (c : Code) (Q : Post) (env : Env) (w : World) : Prop :=
  ∀ a, Has n a env → c.wp P (lift n Q) a w

def Runs (P : Program) (n : Nat) (env : Env) (w : World) (o : Oper) (v : Value) (w' : World) : Prop :=
  ∀ a, Has n a env → (execOp a.eval o).run P w = .ok (.value v) w'

def RunsU (P : Program) (n : Nat) (env : Env) (w : World) (o : Oper) (w' : World) : Prop :=
  ∀ a, Has n a env → (execOp a.eval o).run P w = .ok .skip w'

section
variable {P : Program} {n : Nat} {ops : Array Oper} {l rest : List Oper} {Q : Post} {env : Env} {w w' : World}

theorem WL.lose (h : WL P n ops l Q env w) {env0 : Env} (hc : Cov env0 env) : WL P n ops l Q env0 w := fun a ha => h a (ha.lose hc.sub)
theorem WC.lose {c : Code} (h : WC P n c Q env w) {env0 : Env} (hc : Cov env0 env) : WC P n c Q env0 w := fun a ha => h a (ha.lose hc.sub)

theorem wl_nil (h : Q .normal env w) : WL P n ops [] Q env w := fun _ ha => ⟨env, ha, h⟩

theorem wv {d : Nat} {op : Op} {ty : TypeId} {pos : String} {af : Array Edge} {v : Value} (hd : Nat.blt d n = true) (hr : Runs P n env w ⟨some d, op, ty, pos, af, none⟩ v w')
    (h : WL P n ops rest Q ((d, v) :: env) w') : WL P n ops (⟨some d, op, ty, pos, af, none⟩ :: rest) Q env w := fun a ha =>
  wpList_plain rfl fun K hK => by
    unfold Oper.wp
    rw [hr a ha]
    exact hK _ _ (h _ (ha.put hd v))

theorem wvn {op : Op} {ty : TypeId} {pos : String} {af : Array Edge} {v : Value} (hr : Runs P n env w ⟨none, op, ty, pos, af, none⟩ v w')
    (h : WL P n ops rest Q env w') : WL P n ops (⟨none, op, ty, pos, af, none⟩ :: rest) Q env w := fun a ha =>
  wpList_plain rfl fun K hK => by
    unfold Oper.wp
    rw [hr a ha]
    exact hK _ _ (h _ ha)

theorem wu {op : Op} {ty : TypeId} {pos : String} {af : Array Edge} (hr : RunsU P n env w ⟨none, op, ty, pos, af, none⟩ w')
    (h : WL P n ops rest Q env w') : WL P n ops (⟨none, op, ty, pos, af, none⟩ :: rest) Q env w := fun a ha =>
  wpList_plain rfl fun K hK => by
    unfold Oper.wp
    rw [hr a ha]
    exact hK _ _ (h _ ha)

/-- What an operation's guard says, by the list. -/
def gd (ops : Array Oper) (env : Env) (j : Nat) : Option Value := ((ops[j]?).bind (·.dst)).bind (lk env)

theorem yielded_of {a : Act} (ha : Has n a env) {j : Nat} {b : Bool} (h : gd ops env j = some (.bool b)) : yielded ops a.tmps j = some b := by
  unfold gd at h
  unfold yielded
  cases ho : ops[j]? with
  | none => simp [ho] at h
  | some o =>
    simp only [ho, Option.bind_some] at h ⊢
    cases hd : o.dst with
    | none => simp [hd] at h
    | some d =>
      simp only [hd, Option.bind_some] at h ⊢
      have := ha.at' d _ h
      simp [this]

/-- A guarded operation that is carried out. -/
theorem wvg {d : Nat} {op : Op} {ty : TypeId} {pos : String} {af : Array Edge} {j : Nat} {b : Bool} {v : Value} (hg : gd ops env j = some (.bool b)) (hd : Nat.blt d n = true)
    (hr : Runs P n env w ⟨some d, op, ty, pos, af, some (j, b)⟩ v w')
    (h : WL P n ops rest Q ((d, v) :: env) w') : WL P n ops (⟨some d, op, ty, pos, af, some (j, b)⟩ :: rest) Q env w := fun a ha => by
  unfold wpList
  rw [if_pos (by simp [Region.wanted, yielded_of ha hg])]
  refine .inl ?_
  unfold Oper.wp
  rw [hr a ha]
  exact h _ (ha.put hd v)

/-- A guarded operation that is passed over. -/
theorem wsg {d : Nat} {op : Op} {ty : TypeId} {pos : String} {af : Array Edge} {j : Nat} {b c : Bool} (hg : gd ops env j = some (.bool c)) (hne : (c == b) = false) (hd : Nat.blt d n = true)
    (h : WL P n ops rest Q ((d, undef) :: env) w) : WL P n ops (⟨some d, op, ty, pos, af, some (j, b)⟩ :: rest) Q env w := fun a ha => by
  unfold wpList
  rw [if_neg (by simp [Region.wanted, yielded_of ha hg]; simpa using hne)]
  exact h _ (ha.put hd undef)

theorem wl_cut {env' : Env} (h : WL P n ops l Q env' w) (hc : Cov env env') : WL P n ops l Q env w := h.lose hc

-- Codes

theorem wc_region {id : Nat} (h : WL P n l.toArray l Q env w) : WC P n (.region id l.toArray false) Q env w := fun a ha => wp_region_lit (h a ha)

def sq (P : Program) (n : Nat) (c : Code) (Q : Post) : Post
  | .normal, env, w => WC P n c Q env w
  | e, env, w => Q e env w

theorem wc_seq {x y : Code} (h : WC P n x (sq P n y Q) env w) : WC P n (.seq x y) Q env w := fun a ha =>
  wp_seq (wp_mono (h a ha) fun e a' w' hq => by
    obtain ⟨env', ha', hq⟩ := hq
    cases e with
    | normal => exact hq a' ha'
    | _ => exact ⟨env', ha', hq⟩)

theorem wc_skip (h : Q .normal env w) : WC P n .skip Q env w := fun _ ha => wp_skip ⟨env, ha, h⟩
theorem wc_exit {id : Nat} (h : Q (.exit id) env w) : WC P n (.exit id) Q env w := fun _ ha => wp_exit ⟨env, ha, h⟩
theorem wc_ret (h : Q .ret env w) : WC P n .ret Q env w := fun _ ha => wp_ret ⟨env, ha, h⟩

theorem wc_cond {c : Operand} {x y : Code} {t : Bool} (hc : ev env c = some (.bool t)) (ht : t = true → WC P n x Q env w) (hf : t = false → WC P n y Q env w) : WC P n (.cond c x y) Q env w := fun a ha =>
  wp_cond_split (ha.ev hc) (fun h => ht h a ha) (fun h => hf h a ha)

theorem wc_cond_t {c : Operand} {x y : Code} (hc : ev env c = some (.bool true)) (ht : WC P n x Q env w) : WC P n (.cond c x y) Q env w := fun a ha => wp_cond_true (ha.ev hc) (ht a ha)
theorem wc_cond_f {c : Operand} {x y : Code} (hc : ev env c = some (.bool false)) (hf : WC P n y Q env w) : WC P n (.cond c x y) Q env w := fun a ha => wp_cond_false (ha.ev hc) (hf a ha)

def bk (id : Nat) (Q : Post) : Post
  | .exit i, env, w => bif Nat.beq i id then Q .normal env w else Q (.exit i) env w
  | e, env, w => Q e env w

theorem wc_block {id : Nat} {c : Code} (h : WC P n c (bk id Q) env w) : WC P n (.block id c) Q env w := fun a ha =>
  wp_block (wp_mono (h a ha) fun e a' w' hq => by
    obtain ⟨env', ha', hq⟩ := hq
    cases e with
    | exit i =>
      simp only [bk] at hq
      by_cases e : i = id
      · subst e; simp at hq; simp only [Exit.inBlock, if_true]; exact ⟨env', ha', hq⟩
      · rw [beq_ne e] at hq; simp only [Exit.inBlock, if_neg e]; exact ⟨env', ha', hq⟩
    | _ => exact ⟨env', ha', hq⟩)

/-- The end of a loop's round. -/
def lp {α : Type} (E : α → Env) (Φ : α → World → Prop) (μ : α → Nat) (x : α) (Q : Post) : Post
  | .normal, env, w => ∃ y, μ y < μ x ∧ Cov env (E y) ∧ Φ y w
  | e, env, w => Q e env w

theorem wc_loop {α : Type} (E : α → Env) (Φ : α → World → Prop) (μ : α → Nat) (x0 : α) {c : Code} (hc : Cov env (E x0)) (h0 : Φ x0 w)
    (hr : ∀ x w, Φ x w → WC P n c (lp E Φ μ x Q) (E x) w) : WC P n (.loop c) Q env w := by
  intro a ha b k cs
  have turn : ∀ m x a w, μ x = m → Has n a (E x) → Φ x w →
      ∃ e a' w', lift n Q e a' w' ∧ Arrives P (lone (b.at a (.code c :: .inLoop c :: k)) cs w) b k cs e a' w' := by
    intro m
    induction m using Nat.strongRecOn with
    | _ m ih =>
      intro x a w hm h1 h2
      obtain ⟨e, a1, w1, ⟨env1, he1, hq⟩, harr⟩ := hr x w h2 a h1 b (.inLoop c :: k) cs
      cases e with
      | normal =>
        obtain ⟨y, hy, hcy, hΦ⟩ := hq
        obtain ⟨e2, a2, w2, hq2, harr2⟩ := ih (μ y) (hm ▸ hy) y a1 w1 rfl (he1.lose hcy.sub) hΦ
        exact ⟨e2, a2, w2, hq2, .of_steps (Steps.trans harr (.one step_inLoop)) harr2⟩
      | _ => exact ⟨_, a1, w1, ⟨env1, he1, hq⟩, .pass (x := .inLoop c) rfl (fun _ _ => .inl (by simp)) harr⟩
  obtain ⟨e, a', w', hq, harr⟩ := turn _ x0 a w rfl (ha.lose hc.sub) h0
  exact ⟨e, a', w', hq, .of_steps (.one step_loop) harr⟩

end
end Go.Proofs.YtjbonmmmcnpjiaaGreatDoor
