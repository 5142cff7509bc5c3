/- Part 1 of the proof: lemmas. No condition. -/
import Derived.WalkKit
import Derived.Orders
import Derived.Still
import Derived.Deep.AppendSrc
import Derived.Great.BuildSlice
import Derived.Laws.IdiomCopy
import Derived.Laws.Strings
import Derived.Test.YtipinmfmejccdaaGreatProg
import Derived.Laws.StructEq
namespace Go.Proofs.YtipinmfmejccdaaGreat
section
open Go.RowKit
abbrev Env := List (Nat × Value)
def lk : Env -> Nat -> Option Value
 | [], _ => none
 | (k, v) :: r, t => bif Nat.beq k t then some v else lk r t
def ev (env : Env) : Operand -> Option Value
 | .tmp t => lk env t
 | .const v => some v
 | .global g => some (.pointer (some ⟨g, 0, none⟩))
 | .func f => some (.func (.func f) #[] #[])
structure Has (n : Nat) (a : Act) (env : Env) : Prop where
 df : a.defers = []
 sz : a.tmps.size = n
 at' : ∀ t v, lk env t = some v -> a.tmps[t]? = some v
theorem Has.ev {n : Nat} {a : Act} {env : Env} (h : Has n a env) {x : Operand} {v : Value} (hx : ev env x = some v) : a.eval x = v := by
 cases x with
 | tmp t =>
  have h1 := h.at' t v hx
  simp only [Act.eval, Array.getD_eq_getD_getElem?, h1, Option.getD_some]
 | const u => simp only [Go.Proofs.YtipinmfmejccdaaGreat.ev, Option.some.injEq] at hx; simp [Act.eval, hx]
 | global g => simp only [Go.Proofs.YtipinmfmejccdaaGreat.ev, Option.some.injEq] at hx; simp [Act.eval, hx]
 | func f => simp only [Go.Proofs.YtipinmfmejccdaaGreat.ev, Option.some.injEq] at hx; simp [Act.eval, hx]
theorem G3 {a b : Nat} (h : a ≠ b) : Nat.beq a b = false := by
 cases hb : Nat.beq a b with
 | false => rfl
 | true => exact absurd (Nat.eq_of_beq_eq_true hb) h
theorem Has.put {n : Nat} {a : Act} {env : Env} (h : Has n a env) {d : Nat} (hd : Nat.blt d n = true) (v : Value) : Has n (a.put (some d) v) ((d, v) :: env) := by
 have hd' : d < a.tmps.size := by rw [h.sz]; simpa using hd
 refine ⟨h.df, by simp [Act.put, h.sz], fun t u ht => ?_⟩
 simp only [lk] at ht
 by_cases e : d = t
 ·subst e
  simp at ht
  subst ht
  simp [Act.put, hd']
 ·rw [G3 e] at ht
  simp only [Act.put, Array.getElem?_setIfInBounds_ne e]
  exact h.at' t u ht
theorem Has.skip {n : Nat} {a : Act} {env : Env} (h : Has n a env) (v : Value) : Has n (a.put none v) env := h
theorem Has.lose {n : Nat} {a : Act} {env : Env} (h : Has n a env) {env' : Env} (hc : ∀ t v, lk env' t = some v -> lk env t = some v) : Has n a env' :=
 ⟨h.df, h.sz, fun t v ht => h.at' t v (hc t v ht)⟩
def Cov (env : Env) : Env -> Prop
 | [] => True
 | (t, v) :: r => lk env t = some v /\ Cov env r
theorem Cov.sub {env : Env} : ∀ {env' : Env}, Cov env env' -> ∀ t v, lk env' t = some v -> lk env t = some v
 | [], _, t, v, h => by cases h
 | (k, u) :: r, h, t, v, ht => by
  simp only [lk] at ht
  by_cases e : k = t
  ·subst e; simp at ht; subst ht; exact h.1
  ·rw [G3 e] at ht
   exact h.2.sub t v ht
abbrev Post := Exit -> Env -> World -> Prop
def I9 (n : Nat) (Q : Post) : Exit -> Act -> World -> Prop := fun e a w => ∃ env, Has n a env /\ Q e env w
def WL (P : Program) (n : Nat) (ops : Array Oper) (l : List Oper) (Q : Post) (env : Env) (w : World) : Prop :=
 ∀ a, Has n a env -> wpList P ops (I9 n Q) l a w
def WC (P : Program) (n : Nat) (c : Code) (Q : Post) (env : Env) (w : World) : Prop :=
 ∀ a, Has n a env -> c.wp P (I9 n Q) a w
def Runs (P : Program) (n : Nat) (env : Env) (w : World) (o : Oper) (v : Value) (w' : World) : Prop :=
 ∀ a, Has n a env -> (execOp a.eval o).run P w = .ok (.value v) w'
def RunsU (P : Program) (n : Nat) (env : Env) (w : World) (o : Oper) (w' : World) : Prop :=
 ∀ a, Has n a env -> (execOp a.eval o).run P w = .ok .skip w'
section
variable {P : Program} {n : Nat} {ops : Array Oper} {l rest : List Oper} {Q : Post} {env : Env} {w w' : World}
theorem WL.lose (h : WL P n ops l Q env w) {env0 : Env} (hc : Cov env0 env) : WL P n ops l Q env0 w := fun a ha => h a (ha.lose hc.sub)
theorem WC.lose {c : Code} (h : WC P n c Q env w) {env0 : Env} (hc : Cov env0 env) : WC P n c Q env0 w := fun a ha => h a (ha.lose hc.sub)
theorem Af1 (h : Q .normal env w) : WL P n ops [] Q env w := fun _ ha => ⟨env, ha, h⟩
theorem wv {d : Nat} {op : Op} {ty : TypeId} {pos : String} {af : Array Edge} {v : Value} (hd : Nat.blt d n = true) (hr : Runs P n env w ⟨some d, op, ty, pos, af, none⟩ v w')
  (h : WL P n ops rest Q ((d, v) :: env) w') : WL P n ops (⟨some d, op, ty, pos, af, none⟩ :: rest) Q env w := fun a ha =>
 wpList_plain rfl fun K hK => by
  unfold Oper.wp
  rw [hr a ha]
  exact hK _ _ (h _ (ha.put hd v))
def gd (ops : Array Oper) (env : Env) (j : Nat) : Option Value := ((ops[j]?).bind (·.dst)).bind (lk env)
theorem Azr {a : Act} (ha : Has n a env) {j : Nat} {b : Bool} (h : gd ops env j = some (.bool b)) : yielded ops a.tmps j = some b := by
 unfold gd at h
 unfold yielded
 cases ho : ops[j]? with
 | none => simp [ho] at h
 | some o =>
  simp only [ho, Option.bind_some] at h ⊢
  cases hd : o.dst with
  | none => simp [hd] at h
  | some d =>
   simp only [hd, Option.bind_some] at h ⊢
   have := ha.at' d _ h
   simp [this]
theorem wvg {d : Nat} {op : Op} {ty : TypeId} {pos : String} {af : Array Edge} {j : Nat} {b : Bool} {v : Value} (hg : gd ops env j = some (.bool b)) (hd : Nat.blt d n = true)
  (hr : Runs P n env w ⟨some d, op, ty, pos, af, some (j, b)⟩ v w')
  (h : WL P n ops rest Q ((d, v) :: env) w') : WL P n ops (⟨some d, op, ty, pos, af, some (j, b)⟩ :: rest) Q env w := fun a ha => by
 unfold wpList
 rw [if_pos (by simp [Region.wanted, Azr ha hg])]
 refine .inl ?_
 unfold Oper.wp
 rw [hr a ha]
 exact h _ (ha.put hd v)
theorem Afy {id : Nat} (h : WL P n l.toArray l Q env w) : WC P n (.region id l.toArray false) Q env w := fun a ha => wp_region_lit (h a ha)
def sq (P : Program) (n : Nat) (c : Code) (Q : Post) : Post
 | .normal, env, w => WC P n c Q env w
 | e, env, w => Q e env w
theorem Fu {x y : Code} (h : WC P n x (sq P n y Q) env w) : WC P n (.seq x y) Q env w := fun a ha =>
 wp_seq (wp_mono (h a ha) fun e a' w' hq => by
  obtain ⟨env', ha', hq⟩ := hq
  cases e with
  | normal => exact hq a' ha'
  | _ => exact ⟨env', ha', hq⟩)
theorem O2 (h : Q .normal env w) : WC P n .skip Q env w := fun _ ha => wp_skip ⟨env, ha, h⟩
theorem Av6 {id : Nat} (h : Q (.exit id) env w) : WC P n (.exit id) Q env w := fun _ ha => wp_exit ⟨env, ha, h⟩
theorem O1 (h : Q .ret env w) : WC P n .ret Q env w := fun _ ha => wp_ret ⟨env, ha, h⟩
theorem Ip {c : Operand} {x y : Code} {t : Bool} (hc : ev env c = some (.bool t)) (ht : t = true -> WC P n x Q env w) (hf : t = false -> WC P n y Q env w) : WC P n (.cond c x y) Q env w := fun a ha =>
 wp_cond_split (ha.ev hc) (fun h => ht h a ha) (fun h => hf h a ha)
theorem Bje {c : Operand} {x y : Code} (hc : ev env c = some (.bool false)) (hf : WC P n y Q env w) : WC P n (.cond c x y) Q env w := fun a ha => wp_cond_false (ha.ev hc) (hf a ha)
def bk (id : Nat) (Q : Post) : Post
 | .exit i, env, w => bif Nat.beq i id then Q .normal env w else Q (.exit i) env w
 | e, env, w => Q e env w
theorem Bjd {id : Nat} {c : Code} (h : WC P n c (bk id Q) env w) : WC P n (.block id c) Q env w := fun a ha =>
 wp_block (wp_mono (h a ha) fun e a' w' hq => by
  obtain ⟨env', ha', hq⟩ := hq
  cases e with
  | exit i =>
   simp only [bk] at hq
   by_cases e : i = id
   ·subst e; simp at hq; simp only [Exit.inBlock, if_true]; exact ⟨env', ha', hq⟩
   ·rw [G3 e] at hq; simp only [Exit.inBlock, if_neg e]; exact ⟨env', ha', hq⟩
  | _ => exact ⟨env', ha', hq⟩)
end
end
section
open Go.RowKit
abbrev Bs := Nat × Nat -> Prop
def Rel (w w' : World) : Prop := Below w.heap.size w w'
theorem Rel.refl (w : World) : Rel w w := Below.refl _ _
theorem Rel.size {w w' : World} (h : Rel w w') : w.heap.size <= w'.heap.size := Below.size h
theorem Rel.trans {a b c : World} (h : Rel a b) (k : Rel b c) : Rel a c := Below.trans h (Below.mono k h.size)
theorem Rel.block {w w' : World} (h : Rel w w') {b : Nat} (hb : b < w.heap.size) : w'.heap[b]? = w.heap[b]? := Below.block h b hb
theorem Rel.cell {w w' : World} (h : Rel w w') {a : Addr} (hb : a.block < w.heap.size) : w'.cell? a = w.cell? a := Below.cell h hb
theorem Rel.alloc (w : World) (o : Obj) : Rel w (w.alloc o) := (Below.refl _ _).alloc (Nat.le_refl _) o
theorem Rel.drew {w w' : World} (h : Rel w w') : Rel w w'.drew := Below.drew h
def Blk (X : Nat -> Prop) (o o' : Option Obj) : Prop :=
 o' = o \/ ∃ (cur cur' : Array Value) (e : TypeId) (hd : Nat × Nat), o = some (.cells cur e hd) /\ o' = some (.cells cur' e hd) /\ cur'.size = cur.size /\ ∀ i, ¬ X i -> cur'[i]? = cur[i]?
theorem Blk.mono {X Y : Nat -> Prop} {o o' : Option Obj} (h : Blk X o o') (hs : ∀ i, X i -> Y i) : Blk Y o o' :=
 h.imp id fun ⟨c, c', e, hd, h1, h2, h3, h4⟩ => ⟨c, c', e, hd, h1, h2, h3, fun i hi => h4 i fun hx => hi (hs i hx)⟩
theorem Blk.trans {X : Nat -> Prop} {o p q : Option Obj} (h : Blk X o p) (k : Blk X p q) : Blk X o q := by
 rcases h with rfl | ⟨c, c', e, hd, h1, h2, h3, h4⟩
 ·exact k
 ·rcases k with rfl | ⟨d, d', e', hd', k1, k2, k3, k4⟩
  ·exact .inr ⟨c, c', e, hd, h1, h2, h3, h4⟩
  ·rw [h2] at k1
   obtain ⟨rfl, rfl, rfl⟩ : c' = d /\ e = e' /\ hd = hd' := by simpa using k1
   exact .inr ⟨c, d', e, hd, h1, k2, k3.trans h3, fun i hi => (k4 i hi).trans (h4 i hi)⟩
theorem Blk.same {X : Nat -> Prop} {o o' : Option Obj} (h : Blk X o o') (hn : ∀ i, ¬ X i) : o' = o := by
 rcases h with h | ⟨c, c', e, hd, h1, h2, _, h4⟩
 ·exact h
 ·have : c' = c := Array.ext_getElem? fun i => h4 i (hn i)
  rw [h1, h2, this]
structure Kp (X : Bs) (w w' : World) : Prop where
 size : w.heap.size <= w'.heap.size
 block : ∀ b, b < w.heap.size -> Blk (fun i => X (b, i)) w.heap[b]? w'.heap[b]?
theorem Kp.refl (X : Bs) (w : World) : Kp X w w := ⟨Nat.le_refl _, fun _ _ => .inl rfl⟩
theorem Kp.mono {X Y : Bs} {w w' : World} (h : Kp X w w') (hs : ∀ b, X b -> Y b) : Kp Y w w' := ⟨h.size, fun b hb => (h.block b hb).mono fun _ hx => hs _ hx⟩
theorem Kp.trans {X : Bs} {a b c : World} (h : Kp X a b) (k : Kp X b c) : Kp X a c := ⟨Nat.le_trans h.size k.size, fun i hi => (h.block i hi).trans (k.block i (Nat.lt_of_lt_of_le hi h.size))⟩
abbrev Lc (F : Bs) (w w' : World) : Prop := Kp (fun x => ¬ F x) w w'
theorem Lc.refl (F : Bs) (w : World) : Lc F w w := Kp.refl _ w
theorem Lc.sub {F G : Bs} {w w' : World} (h : Lc F w w') (hs : ∀ b, G b -> F b) : Lc G w w' := Kp.mono h fun _ hx hg => hx (hs _ hg)
theorem Lc.cells {F : Bs} {w w' : World} (h : Lc F w w') {b : Nat} {cur : Array Value} {e : TypeId} {hd : Nat × Nat} (hg : w.heap[b]? = some (.cells cur e hd)) :
  ∃ cur' : Array Value, w'.heap[b]? = some (.cells cur' e hd) /\ cur'.size = cur.size /\ ∀ i, F (b, i) -> cur'[i]? = cur[i]? := by
 have hb : b < w.heap.size := (Array.getElem?_eq_some_iff.1 hg).1
 rcases h.block b hb with h | ⟨c, c', e', hd', h1, h2, h3, h4⟩
 ·exact ⟨cur, h.trans hg, rfl, fun _ _ => rfl⟩
 ·rw [hg] at h1
  obtain ⟨rfl, rfl, rfl⟩ : cur = c /\ e = e' /\ hd = hd' := by simpa using h1
  exact ⟨c', h2, h3, fun i hi => h4 i fun h => h hi⟩
theorem A0j {w : World} {b i : Nat} {u : Value} (h : w.cell? ⟨b, i, none⟩ = some u) : ∃ (cur : Array Value) (e : TypeId) (hd : Nat × Nat), w.heap[b]? = some (.cells cur e hd) /\ cur[i]? = some u := by
 unfold World.cell? at h
 simp only at h
 cases hg : w.heap[b]? with
 | none => rw [hg] at h; cases h
 | some o =>
  rw [hg] at h
  cases o with
  | cells cur e hd => exact ⟨cur, e, hd, rfl, by simpa using h⟩
  | _ => cases h
theorem Aj4 {w : World} {b i : Nat} {cur : Array Value} {e : TypeId} {hd : Nat × Nat} (hg : w.heap[b]? = some (.cells cur e hd)) : w.cell? ⟨b, i, none⟩ = cur[i]? := by simp [World.cell?, hg]
theorem Lc.cell {F : Bs} {w w' : World} (h : Lc F w w') {b i : Nat} {u : Value} (hF : F (b, i)) (hc : w.cell? ⟨b, i, none⟩ = some u) : w'.cell? ⟨b, i, none⟩ = some u := by
 obtain ⟨cur, e, hd, hg, hu⟩ := A0j hc
 obtain ⟨cur', hg', _, hs⟩ := h.cells hg
 rw [Aj4 hg', hs i hF]
 exact hu
theorem Bhy {cur cur' : Array Value} {o n : Nat} (h : ∀ j, j < n -> cur'[o + j]? = cur[o + j]?) : (cur'.toList.drop o).take n = (cur.toList.drop o).take n :=
 List.ext_getElem? fun j => by
  rw [List.getElem?_take, List.getElem?_take]
  split
  ·rename_i hj
   rw [List.getElem?_drop, List.getElem?_drop, Array.getElem?_toList, Array.getElem?_toList]
   exact h j hj
  ·rfl
structure RelX (X : Bs) (w w' : World) : Prop where
 os : w'.os = w.os
 tape : w'.tape = w.tape
 output : w'.output = w.output
 kp : Kp X w w'
theorem RelX.size {X : Bs} {w w' : World} (h : RelX X w w') : w.heap.size <= w'.heap.size := h.kp.size
theorem RelX.lc {X F : Bs} {w w' : World} (h : RelX X w w') (hd : ∀ b, F b -> ¬ X b) : Lc F w w' := h.kp.mono fun b hx hf => hd b hf hx
theorem Rel.x {w w' : World} (h : Rel w w') (X : Bs) : RelX X w w' := ⟨Below.os h, Below.tape h, Below.output h, h.size, fun _ hk => .inl (h.block hk)⟩
theorem Rel.lc {w w' : World} (h : Rel w w') (F : Bs) : Lc F w w' := (h.x _).kp
theorem RelX.rel {X : Bs} {w w' : World} (h : RelX X w w') (hn : ∀ b, ¬ X b) : Rel w w' := ⟨h.os, h.tape, h.output, h.size, fun k hk => (h.kp.block k hk).same fun _ => hn _⟩
theorem RelX.refl (X : Bs) (w : World) : RelX X w w := (Rel.refl w).x X
theorem RelX.trans {X : Bs} {a b c : World} (h : RelX X a b) (k : RelX X b c) : RelX X a c := ⟨k.os.trans h.os, k.tape.trans h.tape, k.output.trans h.output, h.kp.trans k.kp⟩
theorem RelX.mono {X Y : Bs} {w w' : World} (h : RelX X w w') (hs : ∀ b, X b -> Y b) : RelX Y w w' := ⟨h.os, h.tape, h.output, h.kp.mono hs⟩
theorem RelX.step {X Y : Bs} {a b c : World} (h : RelX X a b) (k : RelX Y b c) (hy : ∀ i, Y i -> a.heap.size <= i.1 \/ X i) : RelX X a c :=
 ⟨k.os.trans h.os, k.tape.trans h.tape, k.output.trans h.output, Nat.le_trans h.size k.size, fun i hi => (h.kp.block i hi).trans ((k.kp.block i (Nat.lt_of_lt_of_le hi h.size)).mono fun j hj => by
  rcases hy _ hj with h' | h'
  ·have : a.heap.size <= i := h'
   omega
  ·exact h')⟩
structure As where
 ok : Bs -> World -> Prop
 loc : ∀ {F : Bs} {w w' : World}, Lc F w w' -> ok F w -> ok F w'
 lt : ∀ {F : Bs} {w : World} {b : Nat × Nat}, ok F w -> F b -> b.1 < w.heap.size
 up : ∀ {F F' : Bs} {w : World}, (∀ b, F b -> F' b) -> (∀ b, F' b -> b.1 < w.heap.size) -> ok F w -> ok F' w
theorem Sx {F : Bs} {w w' : World} (h : Lc F w w') (hl : ∀ b, F b -> b.1 < w.heap.size) : ∀ b, F b -> b.1 < w'.heap.size := fun b hb => Nat.lt_of_lt_of_le (hl b hb) h.size
def Sep : List As -> Bs -> World -> Prop
 | [], F, w => ∀ b, F b -> b.1 < w.heap.size
 | a :: m, F, w => (∀ b, F b -> b.1 < w.heap.size) /\ ∃ F1 F2 : Bs, a.ok F1 w /\ Sep m F2 w /\ (∀ b, F1 b -> ¬ F2 b) /\ (∀ b, F1 b -> F b) /\ (∀ b, F2 b -> F b)
theorem Sep.lt {F : Bs} {w : World} : ∀ {m : List As}, Sep m F w -> ∀ b, F b -> b.1 < w.heap.size
 | [], h => h
 | _ :: _, h => h.1
theorem Sep.up {F F' : Bs} {w : World} (hs : ∀ b, F b -> F' b) (hl : ∀ b, F' b -> b.1 < w.heap.size) : ∀ {m : List As}, Sep m F w -> Sep m F' w
 | [], _ => hl
 | _ :: _, ⟨_, F1, F2, h1, h2, h3, h4, h5⟩ => ⟨hl, F1, F2, h1, h2, h3, fun b hb => hs b (h4 b hb), fun b hb => hs b (h5 b hb)⟩
theorem Sep.loc {F : Bs} {w w' : World} (h : Lc F w w') : ∀ {m : List As}, Sep m F w -> Sep m F w'
 | [], hk => Sx h hk
 | _ :: _, ⟨h0, F1, F2, h1, h2, h3, h4, h5⟩ => ⟨Sx h h0, F1, F2, As.loc _ (h.sub h4) h1, h2.loc (h.sub h5), h3, h4, h5⟩
theorem Sep.swap {F : Bs} {w : World} {a c : As} {m : List As} (h : Sep (a :: c :: m) F w) : Sep (c :: a :: m) F w := by
 obtain ⟨h0, F1, F2, h1, ⟨h2, F3, F4, h3, h4, h5, h6, h7⟩, h8, h9, h10⟩ := h
 refine ⟨h0, F3, fun b => F1 b \/ F4 b, h3, ⟨fun b hb => ?_, F1, F4, h1, h4, fun b hb h' => h8 b hb (h7 b h'), fun _ h => .inl h, fun _ h => .inr h⟩, fun b hb h' => ?_, fun b hb => h10 b (h6 b hb), fun b hb => ?_⟩
 ·rcases hb with hb | hb
  ·exact h0 b (h9 b hb)
  ·exact h2 b (h7 b hb)
 ·rcases h' with h' | h'
  ·exact h8 b h' (h6 b hb)
  ·exact h5 b hb h'
 ·rcases hb with hb | hb
  ·exact h9 b hb
  ·exact h10 b (h7 b hb)
theorem Sep.cons_mono {F : Bs} {w : World} {a : As} {m m' : List As} (h : Sep (a :: m) F w) (hm : ∀ F, Sep m F w -> Sep m' F w) : Sep (a :: m') F w := by
 obtain ⟨h0, F1, F2, h1, h2, h3, h4, h5⟩ := h
 exact ⟨h0, F1, F2, h1, hm _ h2, h3, h4, h5⟩
theorem Sep.tail {F : Bs} {w : World} {a : As} {m : List As} (h : Sep (a :: m) F w) : Sep m F w := by
 obtain ⟨h0, F1, F2, h1, h2, h3, h4, h5⟩ := h
 exact h2.up h5 h0
theorem Sep.perm {w : World} {m m' : List As} (hp : m.Perm m') : ∀ {F : Bs}, Sep m F w -> Sep m' F w := by
 induction hp with
 | nil => exact fun h => h
 | cons a _ ih => exact fun h => h.cons_mono fun _ => ih
 | swap a b l => exact fun h => h.swap
 | trans _ _ ih1 ih2 => exact fun h => ih2 (ih1 h)
theorem Sep.split {w : World} : ∀ {l m : List As} {F : Bs}, Sep (l ++ m) F w -> ∃ F1 F2 : Bs, Sep l F1 w /\ Sep m F2 w /\ (∀ b, F1 b -> ¬ F2 b) /\ (∀ b, F1 b -> F b) /\ (∀ b, F2 b -> F b)
 | [], m, F, h => ⟨fun _ => False, F, (fun _ h => h.elim), h, (fun _ h => h.elim), (fun _ h => h.elim), fun _ h => h⟩
 | a :: l, m, F, ⟨h0, F1, F2, h1, h2, h3, h4, h5⟩ => by
  obtain ⟨G1, G2, g1, g2, g3, g4, g5⟩ := Sep.split h2
  refine ⟨fun b => F1 b \/ G1 b, G2, ⟨fun b hb => ?_, F1, G1, h1, g1, fun b hb h' => h3 b hb (g4 b h'), fun _ h => .inl h, fun _ h => .inr h⟩, g2, fun b hb h' => ?_, fun b hb => ?_, fun b hb => h5 b (g5 b hb)⟩
  ·rcases hb with hb | hb
   ·exact h0 b (h4 b hb)
   ·exact h0 b (h5 b (g4 b hb))
  ·rcases hb with hb | hb
   ·exact h3 b hb (g5 b h')
   ·exact g3 b hb h'
  ·rcases hb with hb | hb
   ·exact h4 b hb
   ·exact h5 b (g4 b hb)
theorem Sep.join {w : World} : ∀ {l m : List As} {F1 F2 : Bs}, Sep l F1 w -> Sep m F2 w -> (∀ b, F1 b -> ¬ F2 b) -> Sep (l ++ m) (fun b => F1 b \/ F2 b) w
 | [], m, F1, F2, h1, h2, _ => h2.up (fun _ h => .inr h) fun b hb => by
  rcases hb with hb | hb
  ·exact h1 b hb
  ·exact h2.lt b hb
 | a :: l, m, F1, F2, ⟨h0, G1, G2, g1, g2, g3, g4, g5⟩, h2, hd => by
  have ih := Sep.join g2 h2 fun b hb => hd b (g5 b hb)
  refine ⟨fun b hb => ?_, G1, _, g1, ih, fun b hb h' => ?_, fun b hb => .inl (g4 b hb), fun b hb => ?_⟩
  ·rcases hb with hb | hb
   ·exact h0 b hb
   ·exact h2.lt b hb
  ·rcases h' with h' | h'
   ·exact g3 b hb h'
   ·exact hd b (g4 b hb) h'
  ·rcases hb with hb | hb
   ·exact .inl (g5 b hb)
   ·exact .inr hb
structure Ce where
 rd : Bs -> World -> Value -> Prop
 mono : ∀ {S S' : Bs} {w w' : World} {v : Value}, (∀ b, S b -> S' b) -> Lc S w w' -> rd S w v -> rd S' w' v
 ow : Bs -> World -> Value -> Prop
 loc : ∀ {F : Bs} {w w' : World} {v : Value}, Lc F w w' -> ow F w v -> ow F w' v
 lt : ∀ {F : Bs} {w : World} {v : Value} {b : Nat × Nat}, ow F w v -> F b -> b.1 < w.heap.size
 up : ∀ {F F' : Bs} {w : World} {v : Value}, (∀ b, F b -> F' b) -> (∀ b, F' b -> b.1 < w.heap.size) -> ow F w v -> ow F' w v
 seen : ∀ {F : Bs} {w : World} {v : Value}, ow F w v -> rd F w v
 one : ∀ {S : Bs} {w : World} {v : Value}, rd S w v -> v.oneCell' = true
def cV (u : Value) (hu : u.oneCell' = true := by rfl) : Ce where
 rd := fun _ _ v => v = u
 mono := fun _ _ h => h
 ow := fun F w v => v = u /\ ∀ b, F b -> b.1 < w.heap.size
 loc := fun h hk => ⟨hk.1, Sx h hk.2⟩
 lt := fun hk hb => hk.2 _ hb
 up := fun _ hl hk => ⟨hk.1, hl⟩
 seen := fun hk => hk.1
 one := fun hk => hk ▸ hu
def cI (n : Int) : Ce := cV (.int .i64 n)
def cB (b : Bool) : Ce := cV (.bool b)
def cT (s : ByteArray) : Ce := cV (.string s)
def cY (n : UInt8) : Ce := cV (.int .u8 (n.toNat : Int))
def oC (c : Ce) (v : Value) : As := ⟨fun F w => c.ow F w v, c.loc, c.lt, c.up⟩
def Ao : List Ce -> List Value -> List As
 | c :: cs, v :: vs => oC c v :: Ao cs vs
 | _, _ => []
theorem J3 : ∀ {cs ds : List Ce} {vs us : List Value}, cs.length = vs.length -> Ao (cs ++ ds) (vs ++ us) = Ao cs vs ++ Ao ds us
 | [], _, [], _, _ => rfl
 | [], _, _ :: _, _, h => by simp at h
 | _ :: _, _, [], _, h => by simp at h
 | c :: cs, ds, v :: vs, us, h => by
  simp only [List.cons_append, Ao, List.cons.injEq, true_and]
  exact J3 (by simpa using h)
def Br (S : Bs) (w : World) : List Ce -> List Value -> Prop
 | [], vs => vs = []
 | c :: cs, vs => ∃ v r, vs = v :: r /\ c.rd S w v /\ Br S w cs r
theorem Oc {S S' : Bs} {w w' : World} (h : ∀ b, S b -> S' b) (hl : Lc S w w') : ∀ (cs : List Ce) (vs : List Value), Br S w cs vs -> Br S' w' cs vs
 | [], _, hk => hk
 | c :: cs, _, ⟨v, r, e, h1, h2⟩ => ⟨v, r, e, c.mono h hl h1, Oc h hl cs r h2⟩
theorem Ob {S : Bs} {w : World} : ∀ {cs : List Ce} {vs : List Value}, Br S w cs vs -> vs.length = cs.length
 | [], _, h => by rw [h]; rfl
 | _ :: _, _, ⟨v, r, e, _, h2⟩ => by rw [e, List.length_cons, Ob h2, List.length_cons]
theorem Tg {S : Bs} {w : World} : ∀ {cs ds : List Ce} {vs us : List Value}, Br S w cs vs -> Br S w ds us -> Br S w (cs ++ ds) (vs ++ us)
 | [], _, _, _, h, h' => by have : _ = [] := h; subst this; exact h'
 | c :: cs, ds, _, us, ⟨v, r, e, h1, h2⟩, h' => by subst e; exact ⟨v, r ++ us, rfl, h1, Tg h2 h'⟩
theorem Ym {S : Bs} {w : World} : ∀ {cs : List Ce} {vs : List Value}, Br S w cs vs -> ∀ {j : Nat} {c : Ce}, cs[j]? = some c -> ∃ v, vs[j]? = some v /\ c.rd S w v
 | [], _, _, j, c, hj => by simp at hj
 | c :: cs, _, ⟨v, r, e, h1, h2⟩, 0, c', hj => by
  simp at hj; subst hj; subst e; exact ⟨v, rfl, h1⟩
 | c :: cs, _, ⟨v, r, e, h1, h2⟩, j + 1, c', hj => by
  subst e; exact Ym h2 (by simpa using hj)
theorem Vo {w : World} : ∀ {cs : List Ce} {vs : List Value} {F : Bs}, cs.length = vs.length -> Sep (Ao cs vs) F w -> Br F w cs vs
 | [], [], _, _, _ => rfl
 | [], _ :: _, _, h, _ => by simp at h
 | _ :: _, [], _, h, _ => by simp at h
 | c :: cs, v :: vs, F, hl, ⟨_, F1, F2, h1, h2, _, h4, h5⟩ =>
  ⟨v, vs, rfl, c.mono h4 (Lc.refl _ _) (c.seen h1), Oc h5 (Lc.refl _ _) _ _ (Vo (by simpa using hl) h2)⟩
def Wr (hd : Nat × Nat) (n : Nat) : Prop := ∀ j, j < n -> ¬ (hd.1 <= j /\ j < hd.2)
theorem wr0 (n : Nat) : Wr (0, 0) n := fun j _ h => by simp at h
def Bf (k : Nat) (v : Value) (n : Nat) (xs : List Value) : As where
 ok := fun F w => (∀ b, F b -> b.1 < w.heap.size) /\ xs.length = n * k /\ ((v = .slice none 0 0 /\ n = 0) \/ ∃ b off cap cur e hd, v = .slice (some ⟨b, off, none⟩) n cap /\ (∀ j, j < cap * k -> F (b, off + j)) /\ (w.heap[b]? = some (.cells cur e hd) /\ Wr hd cur.size) /\ n <= cap /\ cap <= maxLen /\ off + cap * k <= cur.size /\ (cur.toList.drop off).take (n * k) = xs)
 loc := fun h ⟨h0, h1, h2⟩ => ⟨Sx h h0, h1, h2.imp id fun ⟨b, off, cap, cur, e, hd, e1, hb, hg, hn, hc, hs, hx⟩ => by
  obtain ⟨cur', hg', hs', he⟩ := h.cells hg.1
  refine ⟨b, off, cap, cur', e, hd, e1, hb, ⟨hg', by rw [hs']; exact hg.2⟩, hn, hc, by omega, ?_⟩
  rw [<- hx]
  exact Bhy fun j hj => he _ (hb j (Nat.lt_of_lt_of_le hj (Nat.mul_le_mul_right _ hn)))⟩
 lt := fun ⟨h0, _⟩ hb => h0 _ hb
 up := fun hs hl ⟨_, h1, h2⟩ => ⟨hl, h1, h2.imp id fun ⟨b, off, cap, cur, e, hd, e1, hb, r⟩ => ⟨b, off, cap, cur, e, hd, e1, fun j hj => hs _ (hb j hj), r⟩⟩
def Aw (b : Nat) (cs : Array Value) (e : TypeId) : As where
 ok := fun F w => (∀ b, F b -> b.1 < w.heap.size) /\ (∀ j, j < cs.size -> F (b, j)) /\ w.heap[b]? = some (.cells cs e (0, 0))
 loc := fun h ⟨h0, h1, h2⟩ => ⟨Sx h h0, h1, by
  obtain ⟨cur', hg', hs', he⟩ := h.cells h2
  have : cur' = cs := Array.ext_getElem? fun i => by
   by_cases hi : i < cs.size
   ·exact he i (h1 i hi)
   ·rw [Array.getElem?_eq_none (by omega), Array.getElem?_eq_none (by omega)]
  rw [hg', this]⟩
 lt := fun ⟨h0, _⟩ hb => h0 _ hb
 up := fun hs hl ⟨_, h1, h2⟩ => ⟨hl, fun j hj => hs _ (h1 j hj), h2⟩
theorem Yr {k : Nat} {w : World} {n : Nat} {xs : List Value} {cur : Array Value} {e : TypeId} {hd : Nat × Nat} {b off : Nat} (hg : w.heap[b]? = some (.cells cur e hd)) (htk : (cur.toList.drop off).take (n * k) = xs) {j : Nat} {u : Value} (hj : xs[j]? = some u) : w.cell? ⟨b, off + j, none⟩ = some u := by
 rw [<- htk, List.getElem?_take] at hj
 split at hj
 ·rw [List.getElem?_drop, Array.getElem?_toList] at hj
  rw [Aj4 hg]; exact hj
 ·cases hj
def Ad (k : Nat) {T : Type} (f : T -> List Ce) (L : List T) : Ce where
 rd := fun S w v => ∃ a cap, v = .slice a L.length cap /\ L.length <= cap /\ cap <= maxLen /\ (L ≠ [] -> ∃ b off xs, a = some ⟨b, off, none⟩ /\ (∀ j, j < L.length * k -> S (b, off + j)) /\ xs.length = L.length * k /\ (∀ j u, xs[j]? = some u -> w.cell? ⟨b, off + j, none⟩ = some u) /\ Br S w (L.flatMap f) xs)
 mono := fun {S S' w w' v} h hk ⟨a, cap, e, h1, h2, h3⟩ => ⟨a, cap, e, h1, h2, fun hl => by
  obtain ⟨b, off, xs, ea, hb, hx, hc, he⟩ := h3 hl
  exact ⟨b, off, xs, ea, fun j hj => h _ (hb j hj), hx, fun j u hj => hk.cell (hb j (by rw [<- hx]; exact (List.getElem?_eq_some_iff.1 hj).1)) (hc j u hj), Oc h hk _ _ he⟩⟩
 ow := fun F w v => ∃ xs : List Value, (L.flatMap f).length = xs.length /\ Sep (Bf k v L.length xs :: Ao (L.flatMap f) xs) F w
 loc := fun h ⟨xs, h1, h2⟩ => ⟨xs, h1, h2.loc h⟩
 lt := fun ⟨_, _, h2⟩ hb => h2.lt _ hb
 up := fun hs hl ⟨xs, h1, h2⟩ => ⟨xs, h1, h2.up hs hl⟩
 seen := fun {F w v} ⟨xs, h1, h2⟩ => by
  obtain ⟨h0, F1, F2, ⟨_, hx, hr⟩, h4, _, h6, h7⟩ := h2
  have h8 := Oc h7 (Lc.refl _ _) _ _ (Vo h1 h4)
  rcases hr with ⟨rfl, hn⟩ | ⟨b, off, cap, cur, e, hd, rfl, hb, hg, hnc, hcm, hsz, htk⟩
  ·exact ⟨none, 0, by rw [hn], by omega, by simp [maxLen], fun hne => absurd (List.eq_nil_of_length_eq_zero hn) hne⟩
  ·exact ⟨_, cap, rfl, hnc, hcm, fun _ => ⟨b, off, xs, rfl, fun j hj => h6 _ (hb j (Nat.lt_of_lt_of_le hj (Nat.mul_le_mul_right _ hnc))), hx, fun j u hj => Yr hg.1 htk hj, h8⟩⟩
 one := fun ⟨_, _, e, _⟩ => by rw [e]; rfl
structure Vi where
 ok : Bs -> World -> Prop
 loc : ∀ {F : Bs} {w w' : World}, Lc F w w' -> ok F w -> ok F w'
 up : ∀ {F F' : Bs} {w : World}, (∀ b, F b -> F' b) -> ok F w -> ok F' w
def vR (v : Value) (c : Ce) : Vi := ⟨fun F w => c.rd F w v, fun h hk => c.mono (fun _ hb => hb) h hk, fun h hk => c.mono h (Lc.refl _ _) hk⟩
def vC (a : Addr) (v : Value) : Vi := ⟨fun F w => F (a.block, a.off) /\ a.spot = none /\ w.cell? a = some v, fun h hk => ⟨hk.1, hk.2.1, by obtain ⟨b, o, s⟩ := a; obtain ⟨h1, rfl, h3⟩ := hk; exact h.cell h1 h3⟩, fun h hk => ⟨h _ hk.1, hk.2⟩⟩
def oV (o : As) (l : List Vi) : As where
 ok := fun F w => o.ok F w /\ ∀ r ∈ l, r.ok F w
 loc := fun h ⟨h1, h2⟩ => ⟨o.loc h h1, fun r hr => r.loc h (h2 r hr)⟩
 lt := fun ⟨h1, _⟩ hb => o.lt h1 hb
 up := fun hs hl ⟨h1, h2⟩ => ⟨o.up hs hl h1, fun r hr => r.up hs (h2 r hr)⟩
structure Rd where
 ok : Bs -> World -> Prop
 mono : ∀ {S S' : Bs} {w w' : World}, (∀ b, S b -> S' b) -> Lc S w w' -> ok S w -> ok S' w'
def rV (v : Value) (c : Ce) : Rd := ⟨fun S w => c.rd S w v, c.mono⟩
def rX (vs : List Value) (cs : List Ce) : Rd := ⟨fun S w => Br S w cs vs, fun h hl hk => Oc h hl _ _ hk⟩
structure Base where
 w : World
 X : Bs
 S : Bs
structure St (w0 : Base) (m : List As) (rs : List Rd) (w : World) : Prop where
 relx : RelX w0.X w0.w w
 base : ∀ b, w0.S b -> b.1 < w0.w.heap.size /\ ¬ w0.X b
 ex : ∃ F : Bs, Sep m F w /\ (∀ b, F b -> w0.w.heap.size <= b.1 \/ w0.X b) /\ ∀ r ∈ rs, r.ok (fun b => (w0.S b \/ w0.X b \/ w0.w.heap.size <= b.1) /\ b.1 < w.heap.size /\ ¬ F b) w
structure Gives (X S : Bs) (w : World) (m : List As) (rs : List Rd) (w' : World) : Prop where
 relx : RelX X w w'
 ex : ∃ F : Bs, Sep m F w' /\ (∀ b, F b -> w.heap.size <= b.1 \/ X b) /\ ∀ r ∈ rs, r.ok (fun b => (S b \/ X b \/ w.heap.size <= b.1) /\ b.1 < w'.heap.size /\ ¬ F b) w'
section
variable {w0 : Base} {w w' : World} {m l l' : List As} {rs rs' : List Rd} {a a' : As}
theorem St.enter {X S : Bs} (hL : Sep m X w) (hS : ∀ b, S b -> b.1 < w.heap.size /\ ¬ X b) : St ⟨w, X, S⟩ m [] w :=
 ⟨RelX.refl _ _, hS, X, hL, fun _ h => .inr h, (fun _ h => by cases h)⟩
theorem St.addE {X S : Bs} (h : St ⟨w, X, S⟩ m rs w) {r : Rd} (hr : r.ok S w) : St ⟨w, X, S⟩ m (r :: rs) w := by
 obtain ⟨h1, hb, F, h2, h3, h4⟩ := h
 refine ⟨h1, hb, F, h2, h3, fun r' hr' => ?_⟩
 rcases List.mem_cons.1 hr' with rfl | hr'
 ·refine r'.mono (fun b hb' => ⟨.inl hb', (hb b hb').1, fun hf => ?_⟩) (Lc.refl _ _) hr
  have h5 := hb b hb'
  rcases h3 b hf with h6 | h6
  ·have : b.1 < w.heap.size := h5.1
   have : w.heap.size <= b.1 := h6
   omega
  ·exact h5.2 h6
 ·exact h4 r' hr'
theorem St.gives (h : St w0 m rs w) : Gives w0.X w0.S w0.w m rs w := ⟨h.relx, h.ex⟩
theorem Gives.fewer {X S : Bs} (h : Gives X S w m rs w') (hs : ∀ r ∈ rs', r ∈ rs) : Gives X S w m rs' w' := by
 obtain ⟨h1, F, h2, h3, h4⟩ := h
 exact ⟨h1, F, h2, h3, fun r hr => h4 r (hs r hr)⟩
theorem St.iso (h : St w0 (l ++ m) rs w) (hi : ∀ F, Sep l F w -> Sep l' F w) : St w0 (l' ++ m) rs w := by
 obtain ⟨h1, hb, F, h2, h3, h4⟩ := h
 obtain ⟨F1, F2, g1, g2, g3, g4, g5⟩ := h2.split
 have g6 := (Sep.join (hi F1 g1) g2 g3).up (F' := F) (fun b hb => by
  rcases hb with hb | hb
  ·exact g4 b hb
  ·exact g5 b hb) h2.lt
 exact ⟨h1, hb, F, g6, h3, h4⟩
theorem St.perm {m' : List As} (h : St w0 m rs w) (hp : m.Perm m') : St w0 m' rs w := by
 obtain ⟨h1, hb, F, h2, h3, h4⟩ := h
 exact ⟨h1, hb, F, h2.perm hp, h3, h4⟩
theorem St.upd (h : St w0 (l ++ m) rs w) (hi : ∀ F, Sep l F w -> ∃ F', Sep l' F' w' /\ RelX F w w' /\ ∀ b, F' b -> F b \/ w.heap.size <= b.1) : St w0 (l' ++ m) rs w' := by
 obtain ⟨h1, hb, F, h2, h3, h4⟩ := h
 obtain ⟨F1, F2, g1, g2, g3, g4, g5⟩ := h2.split
 obtain ⟨F', k1, k2, k3⟩ := hi F1 g1
 have g2' : Sep m F2 w' := g2.loc (k2.lc fun b hb h' => g3 b h' hb)
 have hd : ∀ b, F' b -> ¬ F2 b := fun b hb h' => by
  rcases k3 b hb with h'' | h''
  ·exact g3 b h'' h'
  ·have := g2.lt b h'; omega
 refine ⟨h1.step k2 fun b hb => h3 b (g4 b hb), hb, _, Sep.join k1 g2' hd, fun b hb' => ?_, fun r hr => ?_⟩
 ·rcases hb' with hb' | hb'
  ·rcases k3 b hb' with h' | h'
   ·exact h3 b (g4 b h')
   ·have := h1.size; exact .inl (by omega)
  ·exact h3 b (g5 b hb')
 ·refine r.mono (fun b hb' => ⟨hb'.1, Nat.lt_of_lt_of_le hb'.2.1 k2.size, fun h' => ?_⟩) (k2.lc fun b hb' e => hb'.2.2 (g4 b e)) (h4 r hr)
  rcases h' with h' | h'
  ·rcases k3 b h' with h'' | h''
   ·exact hb'.2.2 (g4 b h'')
   ·have := hb'.2.1; omega
  ·exact hb'.2.2 (g5 b h')
theorem St.call (h : St w0 m rs w) (hr : Rel w w') : St w0 m rs w' :=
 St.upd (l := []) (l' := []) h fun F hF => ⟨F, fun b hb => Nat.lt_of_lt_of_le (hF b hb) hr.size, hr.x F, fun _ hb => .inl hb⟩
theorem St.fix {r : Rd} (h : St w0 (l ++ m) rs w) (hr : ∀ F, Sep l F w -> r.ok F w) : St w0 m (r :: rs) w := by
 obtain ⟨h1, hb, F, h2, h3, h4⟩ := h
 obtain ⟨F1, F2, g1, g2, g3, g4, g5⟩ := h2.split
 refine ⟨h1, hb, F2, g2, fun b hb' => h3 b (g5 b hb'), fun r' hr' => ?_⟩
 rcases List.mem_cons.1 hr' with rfl | hr'
 ·refine r'.mono (fun b hb' => ⟨?_, h2.lt b (g4 b hb'), g3 b hb'⟩) (Lc.refl _ _) (hr F1 g1)
  exact .inr ((h3 b (g4 b hb')).elim .inr .inl)
 ·exact r'.mono (fun b hb' => ⟨hb'.1, hb'.2.1, fun h' => hb'.2.2 (g5 b h')⟩) (Lc.refl _ _) (h4 r' hr')
end
end
section
open Go.RowKit
section
variable {P : Program} {n : Nat} {env : Env} {w : World} {d : Option Tmp} {ty : TypeId} {pos : String} {af : Array Edge} {g : Option (Nat × Bool)}
theorem Aeh {x : Operand} {v : Value} (hx : ev env x = some v) : Runs P n env w ⟨d, .move x, ty, pos, af, g⟩ v w := fun a ha => by simp [execOp, ha.ev hx]
theorem Atm {x : Operand} {v : Value} (hx : ev env x = some v) : Runs P n env w ⟨d, .assign x, ty, pos, af, g⟩ v w := fun a ha => by simp [execOp, ha.ev hx]
theorem Bdk {c x y : Operand} {v : Value} (hc : ev env c = some (.bool true)) (hx : ev env x = some v) : Runs P n env w ⟨d, .pick c x y, ty, pos, af, g⟩ v w := fun a ha => by
 simp [execOp, ha.ev hc, ha.ev hx, asBool]
theorem Bdj {c x y : Operand} {v : Value} (hc : ev env c = some (.bool false)) (hy : ev env y = some v) : Runs P n env w ⟨d, .pick c x y, ty, pos, af, g⟩ v w := fun a ha => by
 simp [execOp, ha.ev hc, ha.ev hy, asBool]
theorem Aei {x : Operand} {t : TypeId} {b : Bool} (hx : ev env x = some (.bool b)) : Runs P n env w ⟨d, .unOp .not t x, ty, pos, af, g⟩ (.bool !b) w := fun a ha => by
 simp [execOp, ha.ev hx, Op.unary]
theorem i64_in {x : Int} (h : -9223372036854775808 <= x /\ x <= 9223372036854775807) : IntKind.i64.wrap x = x := by
 have h1 : IntKind.i64.min = -9223372036854775808 := rfl
 exact IntWalk.i64_in _ h
theorem Gw {x y : Operand} {t u : TypeId} {i j : Int} (hx : ev env x = some (.int .i64 i)) (hy : ev env y = some (.int .i64 j)) (h : -9223372036854775808 <= i + j /\ i + j <= 9223372036854775807) :
  Runs P n env w ⟨d, .binOp .add t x y u, ty, pos, af, g⟩ (.int .i64 (i + j)) w := fun a ha => by
 simp [execOp, ha.ev hx, ha.ev hy, eqGuard, binOp, Op.intArith, i64_in h]
theorem Aek {x y : Operand} {t u : TypeId} {i j : Int} (hx : ev env x = some (.int .i64 i)) (hy : ev env y = some (.int .i64 j)) (h : -9223372036854775808 <= i - j /\ i - j <= 9223372036854775807) :
  Runs P n env w ⟨d, .binOp .sub t x y u, ty, pos, af, g⟩ (.int .i64 (i - j)) w := fun a ha => by
 simp [execOp, ha.ev hx, ha.ev hy, eqGuard, binOp, Op.intArith, i64_in h]
theorem Bde {x y : Operand} {t u : TypeId} {i j : Int} (hx : ev env x = some (.int .i64 i)) (hy : ev env y = some (.int .i64 j)) (h : -9223372036854775808 <= i * j /\ i * j <= 9223372036854775807) :
  Runs P n env w ⟨d, .binOp .mul t x y u, ty, pos, af, g⟩ (.int .i64 (i * j)) w := fun a ha => by
 simp [execOp, ha.ev hx, ha.ev hy, eqGuard, binOp, Op.intArith, i64_in h]
theorem Aeg {x y : Operand} {t u : TypeId} {k : IntKind} {i j : Int} (hx : ev env x = some (.int k i)) (hy : ev env y = some (.int k j)) :
  Runs P n env w ⟨d, .binOp .lss t x y u, ty, pos, af, g⟩ (.bool (decide (i < j))) w := fun a ha => by
 simp [execOp, ha.ev hx, ha.ev hy, eqGuard, binOp, Op.intCmp]
theorem Bc9 {x y : Operand} {t u : TypeId} {k : IntKind} {i j : Int} (hx : ev env x = some (.int k i)) (hy : ev env y = some (.int k j)) :
  Runs P n env w ⟨d, .binOp .leq t x y u, ty, pos, af, g⟩ (.bool (decide (i <= j))) w := fun a ha => by
 simp [execOp, ha.ev hx, ha.ev hy, eqGuard, binOp, Op.intCmp]
theorem Aef {x y : Operand} {t u : TypeId} {k : IntKind} {i j : Int} (hx : ev env x = some (.int k i)) (hy : ev env y = some (.int k j)) :
  Runs P n env w ⟨d, .binOp .gtr t x y u, ty, pos, af, g⟩ (.bool (decide (j < i))) w := fun a ha => by
 simp [execOp, ha.ev hx, ha.ev hy, eqGuard, binOp, Op.intCmp]
theorem Bc2 {x y : Operand} {t u : TypeId} {k : IntKind} {i j : Int} (hx : ev env x = some (.int k i)) (hy : ev env y = some (.int k j)) :
  Runs P n env w ⟨d, .binOp .geq t x y u, ty, pos, af, g⟩ (.bool (decide (j <= i))) w := fun a ha => by
 simp [execOp, ha.ev hx, ha.ev hy, eqGuard, binOp, Op.intCmp]
theorem Tf {x y : Operand} {t u : TypeId} {k : IntKind} {i j : Int} (hx : ev env x = some (.int k i)) (hy : ev env y = some (.int k j)) :
  Runs P n env w ⟨d, .binOp .eql t x y u, ty, pos, af, g⟩ (.bool (decide (i = j))) w := fun a ha => by
 simp [execOp, ha.ev hx, ha.ev hy, eqGuard, binOp, Op.intCmp]
 rfl
theorem Bdg {x y : Operand} {t u : TypeId} {k : IntKind} {i j : Int} (hx : ev env x = some (.int k i)) (hy : ev env y = some (.int k j)) :
  Runs P n env w ⟨d, .binOp .neq t x y u, ty, pos, af, g⟩ (.bool (!decide (i = j))) w := fun a ha => by
 simp [execOp, ha.ev hx, ha.ev hy, eqGuard, binOp, Op.intCmp]
 rfl
theorem At2 {t : TypeId} (k : Nat) (i j : Bool) (ht : P.underlying t = some .bool) (w : World) : (Op.equalIn (k + 1) t (.bool i) (.bool j)).run P w = .ok (i == j) w := by
 simp [Op.equalIn, run_underlying ht]
theorem Bcw {x y : Operand} {t u : TypeId} {i j : Bool} (ht : P.underlying t = some .bool) (hx : ev env x = some (.bool i)) (hy : ev env y = some (.bool j)) :
  Runs P n env w ⟨d, .binOp .eql t x y u, ty, pos, af, g⟩ (.bool (i == j)) w := fun a ha => by
 have h1 := At2 9999 i j ht w
 simp only [execOp, ha.ev hx, ha.ev hy, eqGuard, binOp, Op.equal, Op.maxDepth, Sem.run_bind, Sem.run_pure]
 simp [h1]
theorem Bdh {x y : Operand} {t u : TypeId} {i j : Bool} (ht : P.underlying t = some .bool) (hx : ev env x = some (.bool i)) (hy : ev env y = some (.bool j)) :
  Runs P n env w ⟨d, .binOp .neq t x y u, ty, pos, af, g⟩ (.bool (!(i == j))) w := fun a ha => by
 have h1 := At2 9999 i j ht w
 simp only [execOp, ha.ev hx, ha.ev hy, eqGuard, binOp, Op.equal, Op.maxDepth, Sem.run_bind, Sem.run_pure]
 simp [h1]
theorem Qn {x : Operand} {t e : TypeId} {a0 : Option Addr} {l c : Nat} (ht : P.underlying t = some (.slice e)) (hx : ev env x = some (.slice a0 l c)) :
  Runs P n env w ⟨d, .call { callee := .builtin .len, args := #[x], argTypes := #[t] }, ty, pos, af, g⟩ (.int .i64 (l : Int)) w := fun a ha => by
 simp [execOp, resolve, invoke, builtin, ha.ev hx, Builtin.len_, run_underlying ht, goInt]
theorem Bc8 {x : Operand} {t : TypeId} {s : ByteArray} (ht : P.underlying t = some .string) (hx : ev env x = some (.string s)) :
  Runs P n env w ⟨d, .call { callee := .builtin .len, args := #[x], argTypes := #[t] }, ty, pos, af, g⟩ (.int .i64 (s.size : Int)) w := fun a ha => by
 simp [execOp, resolve, invoke, builtin, ha.ev hx, Builtin.len_, run_underlying ht, goInt]
theorem Bcy {x : Operand} {i : Nat} {vs : Array Value} {v : Value} (hx : ev env x = some (.tuple vs)) (hv : vs[i]? = some v) :
  Runs P n env w ⟨d, .extract x i, ty, pos, af, g⟩ v w := fun a ha => by
 simp [execOp, ha.ev hx, Instr.extract, hv]
theorem Ats {x : Operand} {a0 : Addr} (hx : ev env x = some (.pointer (some a0))) : Runs P n env w ⟨d, .nilCheck x, ty, pos, af, g⟩ (.pointer (some a0)) w := fun a ha => by
 simp [execOp, ha.ev hx]
def Sz (P : Program) (t : TypeId) (size bytes : Nat) (z : Value) : Prop := (P.info? t).map (fun i => (i.zero, i.size, i.bytes)) = some (some z, size, bytes) /\ z.cells.size = size /\ 0 < size
theorem Sz.info {t : TypeId} {size bytes : Nat} {z : Value} (h : Sz P t size bytes z) : ∃ i, P.info? t = some i /\ i.zero = some z /\ i.size = size /\ i.bytes = bytes := by
 obtain ⟨h, _, _⟩ := h
 cases hi : P.info? t with
 | none => simp [hi] at h
 | some i => simp [hi] at h; exact ⟨i, rfl, h.1, h.2.1, h.2.2⟩
theorem Sz.run {t : TypeId} {size bytes : Nat} {z : Value} (h : Sz P t size bytes z) (w : World) : (sizeOf t).run P w = .ok size w := by
 obtain ⟨i, h1, _, h3, _⟩ := h.info
 simp [sizeOf, typeInfo, h1, h3]
theorem Sz.zero {t : TypeId} {size bytes : Nat} {z : Value} (h : Sz P t size bytes z) (w : World) : (zeroValue t).run P w = .ok z w := by
 obtain ⟨i, h1, h2, _⟩ := h.info
 simp [zeroValue, typeInfo, h1, h2]
theorem Atp {x : Operand} {t : TypeId} {k off : Nat} {b o : Nat} {fs : Array Field} {f : Field} {size bytes : Nat} {z : Value} (ht : P.underlying t = some (.struct fs)) (hf : fs[k]? = some f) (ho : f.offset = off)
  (hs : Sz P f.type size bytes z) (hx : ev env x = some (.pointer (some ⟨b, o, none⟩))) :
  Runs P n env w ⟨d, .fieldAddr t x k, ty, pos, af, g⟩ (.pointer (some ⟨b, o + off, none⟩)) w := fun a ha => by
 have h0 : ¬ size = 0 := Nat.pos_iff_ne_zero.1 hs.2.2
 simp [execOp, ha.ev hx, Instr.fieldAt, run_underlying ht, hf, Instr.sureAddr, fieldPlace, hs.run, h0, ho, Addr.add_lit]
def Qi : TypeDesc -> Bool
 | .struct _ | .array _ _ => false
 | _ => true
theorem Atq {x : Operand} {t : TypeId} {a0 : Addr} {v : Value} {td : TypeDesc} (ht : P.underlying t = some td) (hn : Qi td = true) (hx : ev env x = some (.pointer (some a0))) (hc : w.cell? a0 = some v) :
  Runs P n env w ⟨d, .load t x, ty, pos, af, g⟩ v w := fun a ha => by
 have hagg : (isAgg t).run P w = .ok false w := by
  simp only [isAgg, Sem.run_bind, run_underlying ht, Result.andThen_ok]
  cases td <;> first | rfl | cases hn
 simp only [execOp, ha.ev hx, Instr.loadAt, Instr.sureAddr, loadVar, Sem.run_bind, Sem.run_pure, Result.andThen_ok, hagg, Bool.false_eq_true, if_false, run_load, hc]
theorem Atr {x : Operand} {t : TypeId} {a0 : Addr} {fs : Array Field} {size bytes : Nat} {z : Value} {cs : List Value} (ht : P.underlying t = some (.struct fs)) (hs : Sz P t size bytes z) (hx : ev env x = some (.pointer (some a0))) (hl : cs.length = size)
  (hc : ∀ (j : Nat) u, cs[j]? = some u -> w.cell? (a0.add j) = some u) :
  Runs P n env w ⟨d, .load t x, ty, pos, af, g⟩ (.agg cs.toArray) w := fun a ha => by
 have h1 := run_loadCells_list (P := P) (w := w) a0 cs hc
 rw [hl] at h1
 simp [execOp, ha.ev hx, Instr.loadAt, Instr.sureAddr, loadVar, isAgg, run_underlying ht, hs.run, h1]
def RV (P : Program) (w : World) (env : Env) : ResultVar -> Value -> Prop
 | .tmp t, v => lk env t = some v
 | .cell a t, v => ∃ ad, lk env a = some (.pointer (some ad)) /\ (loadVar t ad).run P w = .ok v w
def RVs (P : Program) (w : World) (env : Env) : List ResultVar -> List Value -> Prop
 | [], [] => True
 | r :: rs, v :: vs => RV P w env r v /\ RVs P w env rs vs
 | _, _ => False
def Gy : List Value -> Value
 | [v] => v
 | vs => .tuple vs.toArray
def Tn (tmps : Array Value) : ResultVar -> Sem Value
 | .tmp t => pure (tmps.getD t undef)
 | .cell a t => do loadVar t (<- asAddr (tmps.getD a undef))
theorem Bd6 {a : Act} (ha : Has n a env) {r : ResultVar} {v : Value} (h : RV P w env r v) : (Tn a.tmps r).run P w = .ok v w := by
 cases r with
 | tmp t =>
  have := ha.at' t v h
  simp [Tn, Array.getD_eq_getD_getElem?, this]
 | cell b t =>
  obtain ⟨ad, h2, h3⟩ := h
  have := ha.at' b _ h2
  simp [Tn, Array.getD_eq_getD_getElem?, this, asAddr, h3]
theorem At3 {a : Act} (ha : Has n a env) : ∀ (rs : List ResultVar) (vs : List Value), RVs P w env rs vs -> (rs.mapM (Tn a.tmps)).run P w = .ok vs w
 | [], [], _ => by simp
 | r :: rs, v :: vs, h => by
  have ih := At3 ha rs vs h.2
  simp only [List.mapM_cons, Sem.run_bind, Bd6 ha h.1, Result.andThen_ok, ih, Sem.run_pure]
 | [], _ :: _, h => h.elim
 | _ :: _, [], h => h.elim
theorem Bdz (fn : Func) (tmps : Array Value) : results fn tmps = (do
  let vs <- fn.results.mapM (Tn tmps)
  pure (if h : vs.size = 1 then vs[0] else .tuple vs)) := by
 unfold results
 congr 1
theorem Bd5 {fn : Func} {a : Act} (ha : Has n a env) {vs : List Value} (h : RVs P w env fn.results.toList vs) : (results fn a.tmps).run P w = .ok (Gy vs) w := by
 have h1 := At3 (P := P) (w := w) ha _ _ h
 rw [Bdz, <- Array.toArray_toList (xs := fn.results), List.mapM_toArray]
 simp only [Sem.run_bind, Sem.run_map, h1, Result.andThen_ok, Sem.run_pure]
 congr 1
 match vs with
 | [] => rfl
 | [v] => rfl
 | v :: u :: r =>
  rw [dif_neg (by simp)]
  rfl
def Bd (P : Program) (rs : List ResultVar) (K : Value -> World -> Prop) : Post := fun e env w => (e = .normal \/ e = .ret) /\ ∃ vs, RVs P w env rs vs /\ K (Gy vs) w
theorem Np {rs : List ResultVar} {K : Value -> World -> Prop} (vs : List Value) (h : RVs P w env rs vs) (hk : K (Gy vs) w) : Bd P rs K .ret env w := ⟨.inr rfl, vs, h, hk⟩
theorem A1j {rs : List ResultVar} {K : Value -> World -> Prop} (vs : List Value) (h : RVs P w env rs vs) (hk : K (Gy vs) w) : Bd P rs K .normal env w := ⟨.inl rfl, vs, h, hk⟩
def Can (P : Program) (f : FuncId) : Prop := ∃ fn, P.funcs[f]? = some fn /\ (fn.name == "runtime.NumGoroutine") = false /\ fn.body.isNone = false
def Ret (P : Program) (f : FuncId) (vs : List Value) (w : World) (K : Value -> World -> Prop) : Prop :=
 Can P f /\ Calls P f vs.toArray w (fun e w' => ∃ v, e = .returned v /\ K v w')
theorem Ret.mono {f : FuncId} {vs : List Value} {K K' : Value -> World -> Prop} (h : Ret P f vs w K) (hk : ∀ v w', K v w' -> K' v w') : Ret P f vs w K' :=
 ⟨h.1, h.2.mono fun _ _ ⟨v, e, k⟩ => ⟨v, e, hk _ _ k⟩⟩
def Pt : Nat -> List Value -> Env
 | _, [] => []
 | i, v :: r => (i, v) :: Pt (i + 1) r
theorem Apa : ∀ (vs : List Value) (i t : Nat) (v : Value), lk (Pt i vs) t = some v -> i <= t /\ vs[t - i]? = some v
 | [], _, _, _, h => by cases h
 | u :: r, i, t, v, h => by
  simp only [Pt, lk] at h
  by_cases e : i = t
  ·subst e; simp at h; subst h; simp
  ·rw [G3 e] at h
   have ih := Apa r (i + 1) t v h
   refine ⟨by omega, ?_⟩
   obtain ⟨k, hk⟩ : ∃ k, t - i = k + 1 := ⟨t - i - 1, by omega⟩
   rw [hk, List.getElem?_cons_succ]
   rw [show t - (i + 1) = k by omega] at ih
   exact ih.2
theorem enter {f : FuncId} {fn : Func} {c : Code} {vs : List Value} {K : Value -> World -> Prop} (hf : P.funcs[f]? = some fn) (hb : fn.body = some c) (hn : fn.ntmps = n) (hnm : (fn.name == "runtime.NumGoroutine") = false)
  (hl : Nat.ble vs.length n = true) (h : WC P n c (Bd P fn.results.toList K) (Pt 0 vs) w) : Ret P f vs w K := by
 have hl' : vs.length <= n := by simpa using hl
 refine ⟨⟨fn, hf, hnm, by simp [hb]⟩, calls_of_wp hf hb ?_⟩
 refine wp_mono (h _ ⟨rfl, by simp [hn]; omega, fun t v ht => ?_⟩) fun e a' w' hq => ?_
 ·have := Apa vs 0 t v ht
  simp only [Nat.sub_zero] at this
  rw [Array.getElem?_append_left (by have := (List.getElem?_eq_some_iff.1 this.2).1; simpa using this)]
  simpa using this.2
 ·obtain ⟨env', ha', he, vs', hr, hk⟩ := hq
  have h1 := Bd5 ha' hr
  rcases he with rfl | rfl
  ·exact ⟨ha'.df, _, h1, _, rfl, hk⟩
  ·exact ⟨ha'.df, _, h1, _, rfl, hk⟩
def evs (env : Env) : List Operand -> Option (List Value)
 | [] => some []
 | x :: r => match ev env x, evs env r with
  | some v, some vs => some (v :: vs)
  | _, _ => none
theorem Has.evs {a : Act} (ha : Has n a env) : ∀ (l : List Operand) (vs : List Value), evs env l = some vs -> l.map a.eval = vs
 | [], vs, h => by simp only [Go.Proofs.YtipinmfmejccdaaGreat.evs, Option.some.injEq] at h; simp [<- h]
 | x :: r, vs, h => by
  simp only [Go.Proofs.YtipinmfmejccdaaGreat.evs] at h
  split at h
  ·rename_i v vs' h1 h2
   simp only [Option.some.injEq] at h
   rw [<- h, List.map_cons, ha.ev h1, Has.evs ha r vs' h2]
  ·cases h
variable {ops : Array Oper} {rest : List Oper} {Q : Post}
end
end
section
open Go.RowKit
section
variable {P : Program} {ops : Array Oper} {QA : Act -> World -> Prop}
def Km : Exit -> Act -> World -> Prop := fun _ _ _ => False
def Fj (P : Program) (ops : Array Oper) (z : Bool) (i : Nat) (K : Act -> World -> Prop) (a : Act) (w : World) : Prop :=
 match ops[i]? with
 | none => False
 | some o => if Region.wanted o (yielded ops a.tmps) then o.wp P a w (fun a' w' => (z = true \/ Rel w w') /\ ∃ v, a' = a.put o.dst v /\ K a' w') Km else K (a.put o.dst undef) w
def Rp (ops : Array Oper) : Nat -> Nat -> Nat -> Bool
 | 0, _, _ => false
 | n + 1, i, j =>
  match ops[i]? with
  | none => false
  | some o => o.after.any fun e => Region.binds .any e && (Nat.beq e.on j || Rp ops n e.on j)
def Kh (o : Oper) : Bool := match o.op with
 | .move _ => true
 | _ => false
def X2 (ops : Array Oper) (j : Nat) : Bool := match ops[j]? with
 | some o => Kh o
 | none => false
def E3 (ops : Array Oper) (listed : Array Bool) (i : Nat) : Bool := (List.range ops.size).all fun j => !(listed.getD j false) || (X2 ops j || Rp ops ops.size i j)
theorem Aa4 {listed : Array Bool} {i j : Nat} (h : E3 ops (listed.setIfInBounds i true) j = true) : E3 ops listed j = true := by
 unfold E3 at h ⊢
 refine List.all_eq_true.2 fun q hq => ?_
 have h1 := List.all_eq_true.1 h q hq
 by_cases hiq : i = q
 ·subst hiq
  rcases Nat.lt_or_ge i listed.size with h' | h'
  ·simp [h'] at h1; simp [h1]
  ·simp [Array.getElem?_eq_none h']
 ·rw [getD_set_ne false hiq] at h1; exact h1
def Down (ops : Array Oper) (listed : Array Bool) : Prop := ∀ i o, listed.getD i false = true -> ops[i]? = some o -> ∀ e ∈ o.after, Region.binds .any e = true -> listed.getD e.on false = true
theorem Ajk {listed : Array Bool} (hd : Down ops listed) : ∀ {n i j : Nat} {o : Oper}, Rp ops n i j = true -> ops[i]? = some o -> (∀ e ∈ o.after, Region.binds .any e = true -> listed.getD e.on false = true) -> listed.getD j false = true
 | 0, _, _, _, h, _, _ => by cases h
 | n + 1, i, j, o, h, hi, ha => by
  unfold Rp at h
  simp only [hi] at h
  rw [Array.any_eq_true'] at h
  obtain ⟨e, he, h2⟩ := h
  simp only [Bool.and_eq_true, Bool.or_eq_true] at h2
  have h3 := ha e he h2.1
  rcases h2.2 with h4 | h4
  ·rw [Nat.eq_of_beq_eq_true h4] at h3; exact h3
  ·cases n with
   | zero => cases h4
   | succ n =>
    cases ho : ops[e.on]? with
    | none => unfold Rp at h4; simp [ho] at h4
    | some o' => exact Ajk hd h4 ho (hd _ _ h3 ho)
theorem Ajl {i j : Nat} {o : Oper} {listed listed' : Array Bool} (hd : Down ops listed) (h : E3 ops listed' i = true) (hi : ops[i]? = some o) (hj : j < ops.size) (hl : listed'.getD j false = true) (ha : ∀ e ∈ o.after, Region.binds .any e = true -> listed.getD e.on false = true) : X2 ops j = true \/ listed.getD j false = true := by
 unfold E3 at h
 have h1 := List.all_eq_true.1 h j (List.mem_range.2 hj)
 rw [hl] at h1
 simp only [Bool.not_true, Bool.false_or, Bool.or_eq_true] at h1
 exact h1.imp id fun h1 => Ajk hd h1 hi ha
theorem Down.set {listed : Array Bool} (hd : Down ops listed) {j : Nat} (hj : j ∈ Region.ready .any ops listed) : Down ops (listed.setIfInBounds j true) := fun i o hl hi e he hb => by
 have up : ∀ q, listed.getD q false = true -> (listed.setIfInBounds j true).getD q false = true := fun q hq => by
  by_cases hjq : j = q
  ·subst hjq
   have hlt : j < listed.size := by
    rcases Nat.lt_or_ge j listed.size with h' | h'
    ·exact h'
    ·simp [Array.getElem?_eq_none h'] at hq
   simp [hlt]
  ·rw [getD_set_ne false hjq]; exact hq
 by_cases hji : j = i
 ·subst hji
  obtain ⟨_, oj, hoj, hall⟩ := mem_ready.1 hj
  rw [hi] at hoj
  obtain rfl : o = oj := by simpa using hoj
  exact up _ (hall e he hb)
 ·rw [getD_set_ne false hji] at hl
  exact up _ (hd i o hl hi e he hb)
theorem Down.init (n : Nat) : Down ops (Array.replicate n false) := fun i o hl => by
 rcases Nat.lt_or_ge i n with h' | h'
 ·simp [h'] at hl
 ·simp [h'] at hl
def K4 (P : Program) (ops : Array Oper) (QA : Act -> World -> Prop) : Nat -> Array Bool -> Act -> World -> Prop
 | 0, listed, a, w => Region.ready .any ops listed = [] /\ ∀ w1, Rel w w1 -> QA a w1
 | k + 1, listed, a, w => (Region.ready .any ops listed = [] -> ∀ w1, Rel w w1 -> QA a w1) /\
   ∀ i ∈ Region.ready .any ops listed, ∀ w1, Rel w w1 -> Fj P ops (E3 ops listed i) i (K4 P ops QA k (listed.setIfInBounds i true)) a w1
theorem Af6 : ∀ {k : Nat} {listed : Array Bool} {a : Act} {w w' : World}, K4 P ops QA k listed a w -> Rel w w' -> K4 P ops QA k listed a w'
 | 0, _, _, _, _, h, hr => ⟨h.1, fun w1 h1 => h.2 w1 (hr.trans h1)⟩
 | _ + 1, _, _, _, _, h, hr => ⟨fun h0 w1 h1 => h.1 h0 w1 (hr.trans h1), fun i hi w1 h1 => h.2 i hi w1 (hr.trans h1)⟩
theorem Fa {o : Oper} {a : Act} {w : World} {K K' : Act -> World -> Prop} {Q : Exit -> Act -> World -> Prop} (h : ∀ a w, K a w -> K' a w) (hh : o.wp P a w K Km) : o.wp P a w K' Q := by
 unfold Oper.wp at *
 generalize (execOp a.eval o).run P w = r at *
 cases r with
 | ok m w' =>
  cases m <;> simp only [Oper.upon] at hh ⊢ <;>
   first
    | exact h _ _ hh
    | exact Calls.mono hh (fun e w'' he => by
      cases e with
      | returned v => exact h _ _ he
      | panicked c => exact (he : False).elim
      | outgrown => obtain ⟨_, _, he⟩ := he; exact (he : False).elim)
    | exact Rows.mono hh (fun _ _ he => h _ _ he)
 | halt x w' => cases x <;> simp only [Oper.upon] at hh ⊢ <;> exact (hh : False).elim
theorem Af4 {Q : Exit -> Act -> World -> Prop} (hQ : ∀ a w, QA a w -> Q .normal a w) : ∀ (k : Nat) (listed : Array Bool) (a : Act) (w : World), K4 P ops QA k listed a w -> wpAny P .any ops Q k listed a w
 | 0, _, _, w, h => ⟨h.1, hQ _ _ (h.2 w (Rel.refl w))⟩
 | k + 1, listed, a, w, h => ⟨fun h0 => hQ _ _ (h.1 h0 w (Rel.refl w)), fun i hi => by
   have h1 := h.2 i hi w (Rel.refl w)
   unfold Fj at h1
   unfold wpOp
   split
   ·rename_i ho; simp only [ho] at h1
   ·rename_i o ho
    simp only [ho] at h1
    split
    ·rename_i hw
     simp only [hw, if_true] at h1
     exact .inl (Fa (fun _ _ ⟨_, _, _, h3⟩ => Af4 hQ k _ _ _ h3) h1)
    ·rename_i hw; simp only [hw] at h1; exact Af4 hQ k _ _ _ h1⟩
def Qm (P : Program) (o : Oper) (a : Act) (w : World) (v : Value) : Prop := ∀ w1, Rel w w1 -> o.wp P a w1 (fun a' w' => Rel w1 w' /\ a' = a.put o.dst v) Km
def Iw (P : Program) (ops : Array Oper) (o : Oper) (a : Act) (w : World) (v : Value) : Prop :=
 (Region.wanted o (yielded ops a.tmps) = true /\ Qm P o a w v) \/ (Region.wanted o (yielded ops a.tmps) = false /\ v = undef)
theorem Af8 {o : Oper} {a : Act} {w : World} {x : Option Tmp} {v : Value} {K : Act -> World -> Prop} {R : World -> Prop} (hs : ∀ cs b, o.op ≠ .select cs b) (h1 : ∀ d, x = some d -> d ∉ o.looksAt ops)
  (h : o.wp P (a.put x v) w (fun a' w' => R w' /\ ∃ u, a' = (a.put x v).put o.dst u /\ K a' w') Km) :
  o.wp P a w (fun a' w' => R w' /\ ∃ u, a' = a.put o.dst u /\ K ((a.put x v).put o.dst u) w') Km := by
 unfold Oper.wp at *
 rw [execOp_put o hs a x v h1] at h
 generalize (execOp a.eval o).run P w = r at *
 cases r with
 | ok m w' =>
  cases m <;> simp only [Oper.upon] at h ⊢
  case value u => obtain ⟨h2, _, _, h4⟩ := h; exact ⟨h2, u, rfl, h4⟩
  case skip => obtain ⟨h2, _, _, h4⟩ := h; exact ⟨h2, undef, rfl, h4⟩
  case defer dd =>
   obtain ⟨h2, u', h3, h4⟩ := h
   have := congrArg (fun b : Act => b.defers.length) h3
   have hp : ∀ (b : Act) (y : Option Tmp) (u : Value), (b.put y u).defers = b.defers := fun b y u => by cases y <;> rfl
   simp [hp] at this
  case enter f args =>
   refine Calls.mono h fun e w'' he => ?_
   cases e with
   | returned u => obtain ⟨h2, _, _, h4⟩ := he; exact ⟨h2, u, rfl, h4⟩
   | panicked c => exact he
   | outgrown => exact he
  case row row args => exact Rows.mono h fun u _ ⟨h2, _, _, h4⟩ => ⟨h2, u, rfl, h4⟩
 | halt y w' => cases y <;> simp only [Oper.upon] at h ⊢ <;> exact h
theorem Ro {z : Bool} {i : Nat} {o : Oper} {a : Act} {w w1 : World} {v : Value} {K : Act -> World -> Prop} (hi : ops[i]? = some o) (hy : Iw P ops o a w v) (hr : Rel w w1) (h : ∀ w', Rel w1 w' -> K (a.put o.dst v) w') : Fj P ops z i K a w1 := by
 unfold Fj
 simp only [hi]
 rcases hy with ⟨hw, hq⟩ | ⟨hw, rfl⟩
 ·simp only [hw, if_true]
  exact Fa (fun a' w' ⟨h1, h2⟩ => ⟨.inr h1, v, h2, h2 ▸ h w' h1⟩) (hq w1 hr)
 ·simp only [hw, Bool.false_eq_true, if_false]
  exact h w1 (Rel.refl w1)
theorem Te {o : Oper} {a : Act} {w w' : World} {x : Option Tmp} {u v : Value} (hs : ∀ cs b, o.op ≠ .select cs b) (h1 : ∀ d, x = some d -> d ∉ o.looksAt ops) (hc : ∀ d, x = some d -> o.dst ≠ some d)
  (h : Qm P o a w v) (hr : Rel w w') : Qm P o (a.put x u) w' v := fun w1 hw1 => by
 have h2 := h w1 (hr.trans hw1)
 unfold Oper.wp at *
 rw [execOp_put o hs a x u h1]
 generalize (execOp a.eval o).run P w1 = r at *
 have same : ∀ u', a.put o.dst u' = a.put o.dst v -> (a.put x u).put o.dst u' = (a.put x u).put o.dst v := fun u' he => by
  rw [Act.put_comm a u u' hc, Act.put_comm a u v hc, he]
 cases r with
 | ok m w2 =>
  cases m <;> simp only [Oper.upon] at h2 ⊢
  case value u' => exact ⟨h2.1, same u' h2.2⟩
  case skip => exact ⟨h2.1, same undef h2.2⟩
  case defer dd =>
   have := congrArg (fun b : Act => b.defers.length) h2.2
   have hp : ∀ (b : Act) (y : Option Tmp) (u : Value), (b.put y u).defers = b.defers := fun b y u => by cases y <;> rfl
   simp [hp] at this
  case enter f args =>
   refine Calls.mono h2 fun e w'' he => ?_
   cases e with
   | returned u' => exact ⟨he.1, same u' he.2⟩
   | panicked c => exact he
   | outgrown => exact he
  case row row args => exact Rows.mono h2 fun u' w'' he => ⟨he.1, same u' he.2⟩
 | halt y w2 => cases y <;> simp only [Oper.upon] at h2 ⊢ <;> exact h2
theorem Atk {o : Oper} {a : Act} {w w' : World} {v : Value} (hm : Kh o = true) (h : Qm P o a w v) : Qm P o a w' v := fun w1 _ => by
 have h2 := h w (Rel.refl w)
 unfold Kh at hm
 split at hm
 ·rename_i x hx
  unfold Oper.wp at *
  have hr : ∀ w, (execOp a.eval o).run P w = .ok (.value (a.eval x)) w := fun w => by
   obtain ⟨d, op, ty, pos, af, g⟩ := o
   simp only at hx
   subst hx
   simp [execOp]
  rw [hr] at h2 ⊢
  exact ⟨Rel.refl _, h2.2⟩
 ·cases hm
theorem Bji {i : Nat} {o : Oper} {v : Value} (hi : ops[i]? = some o) (hsel : ∀ (j : Nat) (o : Oper) cs b, ops[j]? = some o -> o.op ≠ .select cs b) :
  ∀ (k : Nat) (listed : Array Bool) (a : Act) (w : World), Down ops listed ->
   (∀ j oj, ops[j]? = some oj -> j ≠ i -> listed.getD j true = false -> (∀ e ∈ oj.after, Region.binds .any e = true -> e.on ≠ i) -> o.apart ops oj = true) ->
   i ∈ Region.ready .any ops listed -> Iw P ops o a w v ->
   K4 P ops QA k (listed.setIfInBounds i true) (a.put o.dst v) w -> K4 P ops QA (k + 1) listed a w := by
 intro k
 induction k with
 | zero =>
  intro listed a w _ _ hr hy H
  refine ⟨fun h => (by rw [h] at hr; cases hr), fun j hj w1 h1 => ?_⟩
  by_cases hji : j = i
  ·subst hji; exact Ro hi hy h1 fun w' hw' => Af6 H (h1.trans hw')
  ·have := ready_mono hj hji
   rw [H.1] at this
   cases this
 | succ k ih =>
  intro listed a w hd hfree hr hy H
  refine ⟨fun h => (by rw [h] at hr; cases hr), fun j hj w1 h1 => ?_⟩
  by_cases hji : j = i
  ·subst hji; exact Ro hi hy h1 fun w' hw' => Af6 H (h1.trans hw')
  ·have h2 := H.2 j (ready_mono hj hji) w1 h1
   obtain ⟨hjun, oj, hoj, hall⟩ := mem_ready.1 hj
   have hnot : ∀ e ∈ oj.after, Region.binds .any e = true -> e.on ≠ i := fun e he hb heq => by
    have h1 := hall e he hb
    have h0 := (mem_ready.1 hr).1
    rw [heq] at h1
    rcases Nat.lt_or_ge i listed.size with h' | h'
    ·simp [h'] at h0 h1; rw [h0] at h1; cases h1
    ·simp [Array.getElem?_eq_none h'] at h1
   have hap := hfree j oj hoj hji hjun hnot
   have hnl : E3 ops (listed.setIfInBounds i true) j = true -> Kh o = true := fun hl => by
    have h9 := (mem_ready.1 hr).1
    rcases Nat.lt_or_ge i listed.size with h' | h'
    ·rcases Ajl hd hl hoj ((Array.getElem?_eq_some_iff.1 hi).1) (by simp [h']) hall with h8 | h8
     ·unfold X2 at h8; simpa only [hi] using h8
     ·simp [h'] at h8 h9; rw [h9] at h8; cases h8
    ·simp [Array.getElem?_eq_none h'] at h9
   obtain ⟨p1, p2, p3⟩ := Oper.apart_spec hap
   have hfree' : ∀ m om, ops[m]? = some om -> m ≠ i -> (listed.setIfInBounds j true).getD m true = false ->
     (∀ e ∈ om.after, Region.binds .any e = true -> e.on ≠ i) -> o.apart ops om = true := fun m om hm hmi hun hno => by
    refine hfree m om hm hmi ?_ hno
    by_cases hjm : j = m
    ·subst hjm; exact hjun
    ·rw [getD_set_ne true hjm] at hun; exact hun
   have hsi := fun cs b => hsel i o cs b hi
   have hsj := fun cs b => hsel j oj cs b hoj
   have keep : ∀ u w2, (Kh o = true \/ Rel w1 w2) -> Iw P ops o (a.put oj.dst u) w2 v := fun u w2 h3 => by
    unfold Iw at *
    rw [wanted_put o a oj.dst u p3]
    rcases hy with ⟨hw, hq⟩ | hy
    ·rcases h3 with h3 | h3
     ·exact .inl ⟨hw, Atk h3 (Te hsi p3 (fun d hd => fun hd' => p2 d hd' hd) hq (Rel.refl w))⟩
     ·exact .inl ⟨hw, Te hsi p3 (fun d hd => fun hd' => p2 d hd' hd) hq (h1.trans h3)⟩
    ·exact .inr hy
   have step : ∀ u w2, (Kh o = true \/ Rel w1 w2) -> K4 P ops QA k ((listed.setIfInBounds i true).setIfInBounds j true) ((a.put o.dst v).put oj.dst u) w2 -> K4 P ops QA (k + 1) (listed.setIfInBounds j true) (a.put oj.dst u) w2 := fun u w2 h3 h4 => by
    refine ih (listed.setIfInBounds j true) _ _ (hd.set hj) hfree' (ready_mono hr (Ne.symm hji)) (keep u w2 h3) ?_
    rw [Array.setIfInBounds_comm _ _ hji, <- Act.put_comm a v u p2]
    exact h4
   unfold Fj at h2 ⊢
   simp only [hoj] at h2 ⊢
   rw [wanted_put oj a o.dst v p1] at h2
   split
   ·rename_i hw
    simp only [hw, if_true] at h2
    exact Fa (fun a' w' ⟨h3, u, h4, h5⟩ => ⟨h3.imp Aa4 id, u, h4, h4 ▸ step u w' (h3.imp hnl id) h5⟩) (Af8 (R := fun w' => E3 ops (listed.setIfInBounds i true) j = true \/ Rel w1 w') hsj p1 h2)
   ·rename_i hw
    simp only [hw] at h2
    exact step undef w1 (.inr (Rel.refl w1)) h2
def Ua (P : Program) (ops : Array Oper) (QA : Act -> World -> Prop) : List (Oper × Nat) -> Act -> World -> Prop
 | [], a, w => ∀ w1, Rel w w1 -> QA a w1
 | (o, 0) :: r, a, w => ∃ v, Iw P ops o a w v /\ Ua P ops QA r (a.put o.dst v) w
 | (o, f + 1) :: r, a, w => (Region.wanted o (yielded ops a.tmps) = true /\ ∀ w1, Rel w w1 -> o.wp P a w1 (fun a' w' => (Nat.beq f 1 = true \/ Rel w1 w') /\ ∃ v, a' = a.put o.dst v /\ Ua P ops QA r a' w') Km) \/
   (Region.wanted o (yielded ops a.tmps) = false /\ ∀ w1, Rel w w1 -> Ua P ops QA r (a.put o.dst undef) w1)
def L8 (ops : Array Oper) : List (Nat × Nat) -> Array Bool -> Bool
 | [], listed => (Region.ready .any ops listed).isEmpty
 | (k, f) :: r, listed => (match f with
  | 0 => (Region.ready .any ops listed).contains k && Region.free .any ops listed k
  | f + 1 => Region.ready .any ops listed == [k] && (!Nat.beq f 1 || E3 ops listed k)) && L8 ops r (listed.setIfInBounds k true)
theorem Zm (hs : Region.noSelect ops = true) : ∀ (ks : List (Nat × Nat)) (l : List (Oper × Nat)) (listed : Array Bool) (a : Act) (w : World), Down ops listed ->
  ks.map (fun k => (ops[k.1]?.map fun o => (o, k.2))) = l.map some -> L8 ops ks listed = true -> Ua P ops QA l a w -> K4 P ops QA ks.length listed a w
 | [], [], _, _, _, _, _, hB, h => ⟨by simpa [L8] using hB, h⟩
 | [], _ :: _, _, _, _, _, he, _, _ => by simp at he
 | _ :: _, [], _, _, _, _, he, _, _ => by simp at he
 | (k, f) :: ks, (o, f') :: l, listed, a, w, hd, he, hB, h => by
  simp only [List.map_cons, List.cons.injEq] at he
  obtain ⟨h0, he⟩ := he
  have ho : ops[k]? = some o /\ f = f' := by
   cases hk : ops[k]? with
   | none => simp [hk] at h0
   | some o' => simp [hk] at h0; exact ⟨by rw [h0.1], h0.2⟩
  obtain ⟨ho, rfl⟩ := ho
  simp only [L8, Bool.and_eq_true] at hB
  obtain ⟨hB1, hB2⟩ := hB
  cases f with
  | zero =>
   simp only [Bool.and_eq_true] at hB1
   obtain ⟨v, hy, hK⟩ := h
   have hrd : k ∈ Region.ready .any ops listed := by simpa using hB1.1
   exact Bji ho (Region.noSelect_spec hs) ks.length listed a w hd (Region.free_spec ho hB1.2) hrd hy (Zm hs ks l _ _ _ (hd.set hrd) he hB2 hK)
  | succ f =>
   simp only [Bool.and_eq_true] at hB1
   have hr : Region.ready .any ops listed = [k] := by simpa using hB1.1
   refine ⟨(fun h' => by rw [hr] at h'; cases h'), fun i hi w1 h1 => ?_⟩
   rw [hr] at hi
   have hik : i = k := by simpa using hi
   subst hik
   unfold Fj
   rcases h with ⟨hw, hK⟩ | ⟨hw, hK⟩
   rotate_left
   ·simp only [ho, hw, Bool.false_eq_true, if_false]
    exact Zm hs ks l _ _ _ (hd.set (by rw [hr]; simp)) he hB2 (hK w1 h1)
   simp only [ho, hw, if_true]
   refine Fa (fun _ _ ⟨h2, v, h3, h4⟩ => ⟨?_, v, h3, Zm hs ks l _ _ _ (hd.set (by rw [hr]; simp)) he hB2 h4⟩) (hK w1 h1)
   rcases h2 with h2 | h2
   ·left
    have := hB1.2
    rw [h2] at this
    simpa using this
   ·exact .inr h2
end
section
variable {P : Program} {n : Nat} {ops : Array Oper} {Q : Post} {env : Env} {w : World} {r : List (Oper × Nat)} {ty : TypeId} {pos : String} {af : Array Edge}
def WO (P : Program) (n : Nat) (ops : Array Oper) (Q : Post) (l : List (Oper × Nat)) (env : Env) (w : World) : Prop :=
 ∀ a, Has n a env -> Ua P ops (fun a w => I9 n Q .normal a w) l a w
def H0 (l : List Oper) : List (Nat × Nat) -> List (Oper × Nat)
 | [] => []
 | k :: ks => match l[k.1]? with
  | some o => (o, k.2) :: H0 l ks
  | none => H0 l ks
theorem As8 (l : List Oper) : ∀ ks : List (Nat × Nat), (ks.all fun k => Nat.blt k.1 l.length) = true -> ks.map (fun k => (l.toArray[k.1]?.map fun o => (o, k.2))) = (H0 l ks).map some
 | [], _ => rfl
 | k :: ks, h => by
  simp only [List.all_cons, Bool.and_eq_true] at h
  have hk : k.1 < l.length := by simpa using h.1
  simp only [List.map_cons, H0, List.getElem?_toArray, List.getElem?_eq_getElem hk, Option.map_some]
  rw [<- As8 l ks h.2]
  simp
theorem T8 {id : Nat} {l : List Oper} (ks : List (Nat × Nat)) (hm : P.follows .mixedOrders = true) (hs : Region.noSelect l.toArray = true) (hl : Nat.beq ks.length l.length = true)
  (hB : L8 l.toArray ks (Array.replicate l.length false) = true) (he : (ks.all fun k => Nat.blt k.1 l.length) = true) (h : WO P n l.toArray Q (H0 l ks) env w) : WC P n (.region id l.toArray true) Q env w := fun a ha => by
 refine wp_region_any hm (Af4 (QA := fun a w => I9 n Q .normal a w) (fun _ _ h => h) _ _ _ _ ?_)
 have hl' : ks.length = l.length := Nat.eq_of_beq_eq_true hl
 have h1 := Zm hs ks (H0 l ks) (Array.replicate l.length false) a w (Down.init _) (As8 l ks he) hB (h a ha)
 rw [hl'] at h1
 simpa using Af6 h1 (Rel.drew (Rel.refl w))
theorem Asn (h : ∀ w1, Rel w w1 -> Q .normal env w1) : WO P n ops Q [] env w := fun _ ha w1 h1 => ⟨env, ha, h w1 h1⟩
theorem ov {d : Nat} {op : Op} {v : Value} (hd : Nat.blt d n = true) (hr : ∀ w1, Rel w w1 -> Runs P n env w1 ⟨some d, op, ty, pos, af, none⟩ v w1)
  (h : WO P n ops Q r ((d, v) :: env) w) : WO P n ops Q ((⟨some d, op, ty, pos, af, none⟩, 0) :: r) env w := fun a ha =>
 ⟨v, .inl ⟨rfl, fun w1 h1 => by unfold Oper.wp; rw [hr w1 h1 a ha]; exact ⟨Rel.refl w1, rfl⟩⟩, h _ (ha.put hd v)⟩
theorem call_wp {d : Nat} {f : FuncId} {args : List Operand} {ats : Array TypeId} {vs : List Value} {K : Value -> World -> Prop} {gu : Option (Nat × Bool)} {a : Act} (ha : Has n a env) (hv : evs env args = some vs) (hc : Ret P f vs w K)
  {N : Act -> World -> Prop} (h : ∀ v w', K v w' -> N (a.put (some d) v) w') : Oper.wp P ⟨some d, .call { callee := .value (.func f), args := args.toArray, argTypes := ats }, ty, pos, af, gu⟩ a w N Km := by
 obtain ⟨⟨fn, hf, hnm, hb⟩, hcalls⟩ := hc
 have h1 : (execOp a.eval ⟨some d, .call { callee := .value (.func f), args := args.toArray, argTypes := ats }, ty, pos, af, gu⟩).run P w = .ok (.enter f vs.toArray) w := by
  simp only [execOp, resolve, Act.eval, Deferred.ofValue, invoke, callFunc, Sem.run_bind, Sem.run_pure, Result.andThen_ok, run_program, hf, hnm, hb, List.map_toArray, ha.evs _ _ hv]
  simp
 unfold Oper.wp
 rw [h1]
 exact hcalls.mono fun e w' ⟨v, he, hk⟩ => by subst he; exact h v w' hk
def Ex (P : Program) (n : Nat) (env : Env) (w : World) (o : Oper) (K : Value -> World -> Prop) : Prop := ∃ v w', Runs P n env w o v w' /\ K v w'
def ExU (P : Program) (n : Nat) (env : Env) (w : World) (o : Oper) (K : World -> Prop) : Prop := ∃ w', RunsU P n env w o w' /\ K w'
theorem Mu {d : Nat} {op : Op} {l : List Oper} (hd : Nat.blt d n = true) (h : Ex P n env w ⟨some d, op, ty, pos, af, none⟩ fun v w' => WL P n ops l Q ((d, v) :: env) w') : WL P n ops (⟨some d, op, ty, pos, af, none⟩ :: l) Q env w := by
 obtain ⟨v, w', hr, hk⟩ := h
 exact wv hd hr hk
theorem X4 {d : Nat} {op : Op} (hd : Nat.blt d n = true) (h : ∀ w1, Rel w w1 -> Ex P n env w1 ⟨some d, op, ty, pos, af, none⟩ fun v w' => WO P n ops Q r ((d, v) :: env) w') : WO P n ops Q ((⟨some d, op, ty, pos, af, none⟩, 2) :: r) env w := fun a ha =>
 .inl ⟨rfl, fun w1 h1 => by
  obtain ⟨v, w', hr, hk⟩ := h w1 h1
  unfold Oper.wp
  rw [hr a ha]
  exact ⟨.inl rfl, v, rfl, hk _ (ha.put hd v)⟩⟩
end
end
section
open Go.RowKit
section
variable {P : Program} {n : Nat} {ops : Array Oper} {l rest : List Oper} {Q : Post} {env : Env} {w w' : World} {r : List (Oper × Nat)} {ty : TypeId} {pos : String} {af : Array Edge}
theorem Runs.lose {o : Oper} {v : Value} {env0 : Env} (h : Runs P n env w o v w') (hc : Cov env0 env) : Runs P n env0 w o v w' := fun a ha => h a (ha.lose hc.sub)
def N1 (b : Bool) : Value -> Bool
 | .bool c => c == b
 | _ => false
theorem Bjc {o : Oper} {a : Act} (ha : Has n a env) {j : Nat} {b c : Bool} (hg : gd ops env j = some (.bool c)) (hc : c = b) (ho : o.guard = some (j, b)) : Region.wanted o (yielded ops a.tmps) = true := by
 simp [Region.wanted, ho, Azr ha hg, hc]
theorem Afw {o : Oper} {a : Act} (ha : Has n a env) {j : Nat} {b : Bool} {u : Value} (hg : gd ops env j = some u) (hc : N1 b u = false) (ho : o.guard = some (j, b)) : Region.wanted o (yielded ops a.tmps) = false := by
 have h1 : yielded ops a.tmps j ≠ some b := by
  unfold gd at hg
  unfold yielded
  cases hq : ops[j]? with
  | none => simp [hq] at hg
  | some p =>
   simp only [hq, Option.bind_some] at hg ⊢
   cases hd : p.dst with
   | none => simp [hd] at hg
   | some d =>
    simp only [hd, Option.bind_some] at hg ⊢
    rw [ha.at' d _ hg]
    cases u <;> first | (simp; done) | (simpa [N1] using hc)
 simpa [Region.wanted, ho] using h1
theorem gv {d : Nat} {op : Op} {j : Nat} {b c : Bool} {v : Value} (hg : gd ops env j = some (.bool c)) (hc : c = b) (hd : Nat.blt d n = true)
  (hr : Runs P n env w ⟨some d, op, ty, pos, af, some (j, b)⟩ v w')
  (h : WL P n ops rest Q ((d, v) :: env) w') : WL P n ops (⟨some d, op, ty, pos, af, some (j, b)⟩ :: rest) Q env w := wvg (by rw [hg, hc]) hd hr h
theorem gs {d : Nat} {op : Op} {j : Nat} {b : Bool} {u : Value} (hg : gd ops env j = some u) (hc : N1 b u = false) (hd : Nat.blt d n = true)
  (h : WL P n ops rest Q ((d, undef) :: env) w) : WL P n ops (⟨some d, op, ty, pos, af, some (j, b)⟩ :: rest) Q env w := fun a ha => by
 unfold wpList
 rw [if_neg (by rw [Afw ha hg hc rfl]; exact Bool.false_ne_true)]
 exact h _ (ha.put hd undef)
end
end
section
open Go.RowKit
section
variable {P : Program} {n : Nat} {Q : Post} {env : Env} {w : World} {c : Code} {i id : Nat}
theorem Ij (h : WC P n c Q env w) : sq P n c Q .normal env w := h
theorem Qx (h : Q .ret env w) : sq P n c Q .ret env w := h
end
end
section
open Go.RowKit
def iw (x : Int) : Int := IntKind.i64.wrap x
def H4 (x y : Int) : Int := IntKind.i64.wrap ((BitVec.ofInt 64 x &&& BitVec.ofInt 64 y).toNat : Int)
def Ru (x y : Int) : Int := IntKind.i64.wrap ((BitVec.ofInt 64 x ^^^ BitVec.ofInt 64 y).toNat : Int)
def Na (x y : Int) : Int := x.fdiv (2 ^ (min y.toNat 64))
theorem Abc (x y : Int) (h : 0 <= y /\ y <= 9223372036854775807) : 0 <= H4 x y /\ H4 x y <= y := by
 have h1 : (BitVec.ofInt 64 x &&& BitVec.ofInt 64 y).toNat <= y.toNat := by
  rw [BitVec.toNat_and]
  refine Nat.le_trans Nat.and_le_right ?_
  rw [BitVec.toNat_ofInt]
  omega
 have h2 : IntKind.i64.wrap ((BitVec.ofInt 64 x &&& BitVec.ofInt 64 y).toNat : Int) = ((BitVec.ofInt 64 x &&& BitVec.ofInt 64 y).toNat : Int) := i64_in (by omega)
 unfold H4
 rw [h2]
 omega
section
variable {P : Program} {n : Nat} {env : Env} {w : World} {d : Option Tmp} {ty : TypeId} {pos : String} {af : Array Edge} {g : Option (Nat × Bool)}
theorem Bcs {x y : Operand} {t u : TypeId} {i j : Int} (hx : ev env x = some (.int .i64 i)) (hy : ev env y = some (.int .i64 j)) :
  Runs P n env w ⟨d, .binOp .add t x y u, ty, pos, af, g⟩ (.int .i64 (iw (i + j))) w := fun a ha => by
 simp [execOp, ha.ev hx, ha.ev hy, eqGuard, binOp, Op.intArith, iw]
theorem Bdf {x y : Operand} {t u : TypeId} {i j : Int} (hx : ev env x = some (.int .i64 i)) (hy : ev env y = some (.int .i64 j)) :
  Runs P n env w ⟨d, .binOp .mul t x y u, ty, pos, af, g⟩ (.int .i64 (iw (i * j))) w := fun a ha => by
 simp [execOp, ha.ev hx, ha.ev hy, eqGuard, binOp, Op.intArith, iw]
theorem Bct {x y : Operand} {t u : TypeId} {i j : Int} (hx : ev env x = some (.int .i64 i)) (hy : ev env y = some (.int .i64 j)) :
  Runs P n env w ⟨d, .binOp .and t x y u, ty, pos, af, g⟩ (.int .i64 (H4 i j)) w := fun a ha => by
 simp [execOp, ha.ev hx, ha.ev hy, eqGuard, binOp, Op.intBits, H4, IntKind.bits, -BitVec.toNat_and, -BitVec.toNat_ofInt]; rfl
theorem Bdu {x y : Operand} {t u : TypeId} {i j : Int} (hx : ev env x = some (.int .i64 i)) (hy : ev env y = some (.int .i64 j)) :
  Runs P n env w ⟨d, .binOp .xor t x y u, ty, pos, af, g⟩ (.int .i64 (Ru i j)) w := fun a ha => by
 simp [execOp, ha.ev hx, ha.ev hy, eqGuard, binOp, Op.intBits, Ru, IntKind.bits, -BitVec.toNat_xor, -BitVec.toNat_ofInt]; rfl
theorem Bdn {x y : Operand} {t u : TypeId} {k : IntKind} {i j : Int} (hx : ev env x = some (.int .i64 i)) (hy : ev env y = some (.int k j)) (hj : 0 <= j) :
  Runs P n env w ⟨d, .binOp .shr t x y u, ty, pos, af, g⟩ (.int .i64 (Na i j)) w := fun a ha => by
 simp [execOp, ha.ev hx, ha.ev hy, eqGuard, binOp, Op.shift, Na, IntKind.bits, show ¬ j < 0 by omega]
theorem Bdm {x y : Operand} {t u : TypeId} {i j : Int} (hx : ev env x = some (.int .i64 i)) (hy : ev env y = some (.int .i64 j)) (h : 0 <= i /\ 0 < j) :
  Runs P n env w ⟨d, .binOp .rem t x y u, ty, pos, af, g⟩ (.int .i64 (i % j)) w := fun a ha => by
 simp [execOp, ha.ev hx, ha.ev hy, eqGuard, binOp, Op.intDiv, show ¬ j = 0 by omega, Int.tmod_eq_emod_of_nonneg h.1]
theorem Bdl {x y : Operand} {t u : TypeId} {i j : Int} (hx : ev env x = some (.int .i64 i)) (hy : ev env y = some (.int .i64 j)) (h : 0 <= i /\ i <= 9223372036854775807 /\ 0 < j) :
  Runs P n env w ⟨d, .binOp .quo t x y u, ty, pos, af, g⟩ (.int .i64 (i / j)) w := fun a ha => by
 have h1 : 0 <= i / j := Int.ediv_nonneg h.1 (by omega)
 have h2 : i / j <= i := Int.ediv_le_self _ h.1
 simp [execOp, ha.ev hx, ha.ev hy, eqGuard, binOp, Op.intDiv, show ¬ j = 0 by omega, Int.tdiv_eq_ediv_of_nonneg h.1, i64_in (x := i / j) (by omega)]
theorem Bcv {x : Operand} {s t : TypeId} {k k' : IntKind} {td : TypeDesc} {i : Int} (hs : P.underlying s = some td) (ht : P.underlying t = some (.int k)) (hx : ev env x = some (.int k' i)) (h : k.wrap i = i) :
  Runs P n env w ⟨d, .convert s t x, ty, pos, af, g⟩ (.int k i) w := fun a ha => by
 simp [execOp, ha.ev hx, convert, run_underlying hs, run_underlying ht, Conv.intToInt, h]
end
section
variable {P : Program} {n : Nat} {env : Env} {w : World} {ty : TypeId} {pos : String} {af : Array Edge} {ops : Array Oper} {rest : List Oper} {Q : Post}
end
structure Sv where
 p : Option Addr
 n : Nat
 c : Nat
def Sv.v (s : Sv) : Value := .slice s.p s.n s.c
end
section
open Go.RowKit
def el {T : Type} [Inhabited T] (L : List T) (i : Nat) : T := L.getD i default
theorem G9 {T : Type} [Inhabited T] {L : List T} {i : Nat} (h : i < L.length) : el L i = L[i] := by
 unfold el; rw [List.getD_eq_getElem?_getD, List.getElem?_eq_getElem h]; rfl
theorem Kd {T A : Type} {k : Nat} {f : T -> List A} (hf : ∀ x, (f x).length = k) : ∀ L : List T, (L.flatMap f).length = L.length * k
 | [] => by simp
 | x :: L => by rw [List.flatMap_cons, List.length_append, hf, Kd hf L, List.length_cons, Nat.add_mul]; omega
theorem Wh {T A : Type} [Inhabited T] {k : Nat} {f : T -> List A} (hf : ∀ x, (f x).length = k) : ∀ (L : List T) (i j : Nat), i < L.length -> j < k -> (L.flatMap f)[i * k + j]? = (f (el L i))[j]?
 | [], i, j, hi, _ => by simp at hi
 | x :: L, 0, j, _, hj => by
  rw [List.flatMap_cons, Nat.zero_mul, Nat.zero_add, List.getElem?_append_left (by rw [hf]; exact hj)]
  rfl
 | x :: L, i + 1, j, hi, hj => by
  rw [List.flatMap_cons, List.getElem?_append_right (by rw [hf, Nat.add_mul]; omega), hf]
  rw [show (i + 1) * k + j - k = i * k + j by rw [Nat.add_mul]; omega]
  rw [Wh hf L i j (by simpa using hi) hj]
  rfl
theorem Abx {T A : Type} [Inhabited T] {k : Nat} {f : T -> List A} (hf : ∀ x, (f x).length = k) : ∀ (L : List T) (i j : Nat) (u : A) (y : T), i < L.length -> j < k -> f y = (f (el L i)).set j u -> (L.set i y).flatMap f = (L.flatMap f).set (i * k + j) u
 | [], i, j, _, _, hi, _, _ => by simp at hi
 | x :: L, 0, j, u, y, _, hj, hx => by
  have hx' : f y = (f x).set j u := hx
  rw [List.flatMap_cons, Nat.zero_mul, Nat.zero_add, List.set_append_left _ _ (by rw [hf]; exact hj), List.set_cons_zero, List.flatMap_cons, hx']
 | x :: L, i + 1, j, u, y, hi, hj, hx => by
  rw [List.flatMap_cons, List.set_append_right _ _ (by rw [hf, Nat.add_mul]; omega), hf, List.set_cons_succ, List.flatMap_cons]
  rw [show (i + 1) * k + j - k = i * k + j by rw [Nat.add_mul]; omega]
  rw [Abx hf L i j u y (by simpa using hi) hj hx]
def Bq : Value -> Nat -> Addr
 | .slice (some a) _ _, j => ⟨a.block, a.off + j, none⟩
 | _, _ => ⟨0, 0, none⟩
def al (w : World) : Bs := fun b => b.1 < w.heap.size
section
variable {w0 : Base} {w w' : World} {m l l' : List As} {rs : List Rd} {c : Ce} {v : Value} {S : Bs}
theorem St.seeR (h : St w0 m rs w) (hr : rV v c ∈ rs) : c.rd (al w) w v := by
 obtain ⟨_, _, F, _, _, h4⟩ := h
 exact c.mono (fun b hb => hb.2.1) (Lc.refl _ _) (h4 _ hr)
theorem Sep.mem {F : Bs} {a : As} : ∀ {m : List As}, Sep m F w -> a ∈ m -> ∃ F', (∀ b, F' b -> F b) /\ a.ok F' w
 | c :: m, ⟨_, F1, F2, h1, h2, _, h4, h5⟩, hm => by
  rcases List.mem_cons.1 hm with rfl | hm
  ·exact ⟨F1, h4, h1⟩
  ·obtain ⟨F', h6, h7⟩ := h2.mem hm
   exact ⟨F', fun b hb => h5 b (h6 b hb), h7⟩
theorem St.at' (h : St w0 m rs w) {a : As} (hm : a ∈ m) : ∃ F, a.ok F w := by
 obtain ⟨_, _, F, h2, _, _⟩ := h
 obtain ⟨F', _, h'⟩ := h2.mem hm
 exact ⟨F', h'⟩
theorem St.seeO (h : St w0 m rs w) (hm : oC c v ∈ m) : c.rd (al w) w v := by
 obtain ⟨F, hF⟩ := h.at' hm
 exact c.mono (fun b hb => c.lt hF hb) (Lc.refl _ _) (c.seen hF)
theorem St.seeOV (h : St w0 m rs w) {l : List Vi} (hm : oV (oC c v) l ∈ m) : c.rd (al w) w v := by
 obtain ⟨F, hF, _⟩ := h.at' hm
 exact c.mono (fun b hb => c.lt hF hb) (Lc.refl _ _) (c.seen hF)
theorem St.seeV (h : St w0 m rs w) {o : As} {l : List Vi} (hm : oV o l ∈ m) (hr : vR v c ∈ l) : c.rd (al w) w v := by
 obtain ⟨F, hF, h2⟩ := h.at' hm
 exact c.mono (fun b hb => o.lt hF hb) (Lc.refl _ _) (h2 _ hr)
variable {T : Type} {k : Nat} {f : T -> List Ce} {L : List T}
theorem Cs.form (h : (Ad k f L).rd S w v) : ∃ s : Sv, v = s.v /\ s.n = L.length /\ L.length <= s.c /\ s.c <= maxLen := by
 obtain ⟨a, cap, rfl, h1, h2, _⟩ := h
 exact ⟨⟨a, _, cap⟩, rfl, rfl, h1, h2⟩
theorem Cs.sv (h : (Ad k f L).rd S w v) : ∃ s : Sv, v = s.v := by
 obtain ⟨s, h, _⟩ := Cs.form h
 exact ⟨s, h⟩
theorem Cs.ptr (h : (Ad k f L).rd S w v) {i : Nat} (hi : i < L.length) : ∃ b off len cap, v = .slice (some ⟨b, off, none⟩) len cap := by
 obtain ⟨a, cap, rfl, h1, h2, h3⟩ := h
 obtain ⟨b, off, xs, rfl, _⟩ := h3 (by intro e; subst e; simp at hi)
 exact ⟨b, off, _, _, rfl⟩
theorem Cs.at' [Inhabited T] (h : (Ad k f L).rd S w v) (hf : ∀ x, (f x).length = k) {i j : Nat} (hi : i < L.length) (hc : (f (el L i))[j]? = some c) : ∃ u, w.cell? (Bq v (i * k + j)) = some u /\ c.rd S w u /\ S ((Bq v (i * k + j)).block, (Bq v (i * k + j)).off) /\ (Bq v (i * k + j)).spot = none := by
 obtain ⟨a, cap, rfl, h1, h2, h3⟩ := h
 obtain ⟨b, off, xs, rfl, hS, hl, hx, hr⟩ := h3 (by intro e; subst e; simp at hi)
 have hj : j < k := by
  have := (List.getElem?_eq_some_iff.1 hc).1
  rwa [hf] at this
 have h4 : (L.flatMap f)[i * k + j]? = some c := by rw [Wh hf L i j hi hj]; exact hc
 obtain ⟨u, hu, hcu⟩ := Ym hr h4
 have hlt : i * k + j < L.length * k := by
  have := Nat.mul_le_mul_right k (Nat.succ_le_of_lt hi)
  rw [Nat.succ_mul] at this
  omega
 exact ⟨u, by simpa [Bq] using hx _ u hu, hcu, hS _ hlt, rfl⟩
theorem Cs.get [Inhabited T] (h : (Ad k f L).rd S w v) (hf : ∀ x, (f x).length = k) {i j : Nat} {u : Value} {hu : u.oneCell' = true} (hi : i < L.length) (hc : (f (el L i))[j]? = some (cV u hu)) : w.cell? (Bq v (i * k + j)) = some u := by
 obtain ⟨u', h1, h2, _⟩ := Cs.at' h hf hi hc
 have : u' = u := h2
 rw [<- this]; exact h1
theorem rVg {c : Ce} {v : Value} {S : Bs} {w : World} (h : (rV v c).ok S w) : c.rd S w v := h
theorem vRg {c : Ce} {v : Value} {S : Bs} {w : World} (h : (vR v c).ok S w) : c.rd S w v := h
theorem St.leaf [Inhabited T] {T' : Type} {k' : Nat} {f' : T' -> List Ce} {L' : List T'} (h : St w0 m rs w) (hr : rV v (Ad k f L) ∈ rs) (hf : ∀ x, (f x).length = k) {i j : Nat} (hi : i < L.length) (hc : (f (el L i))[j]? = some (Ad k' f' L')) :
  ∃ s : Sv, St w0 m (rV s.v (Ad k' f' L') :: rs) w /\ ∀ w1, Rel w w1 -> w1.cell? (Bq v (i * k + j)) = some s.v := by
 obtain ⟨h1, hb, F, h2, h3, h4⟩ := h
 obtain ⟨u, g1, g2, g3⟩ := Cs.at' (rVg (h4 _ hr)) hf hi hc
 obtain ⟨s, rfl⟩ := Cs.sv g2
 refine ⟨s, ⟨h1, hb, F, h2, h3, fun r hr' => ?_⟩, fun w1 hw => (hw.cell g3.1.2.1).trans g1⟩
 rcases List.mem_cons.1 hr' with rfl | hr'
 ·exact g2
 ·exact h4 r hr'
theorem St.leafV [Inhabited T] {T' : Type} {k' : Nat} {f' : T' -> List Ce} {L' : List T'} {vl : List Vi} (h : St w0 (oV (oC (Ad k f L) v) vl :: m) rs w) (hf : ∀ x, (f x).length = k) {i j : Nat} (hi : i < L.length) (hc : (f (el L i))[j]? = some (Ad k' f' L')) :
  ∃ s : Sv, St w0 (oV (oC (Ad k f L) v) (vR s.v (Ad k' f' L') :: vC (Bq v (i * k + j)) s.v :: vl) :: m) rs w /\ ∀ w1, Rel w w1 -> w1.cell? (Bq v (i * k + j)) = some s.v := by
 obtain ⟨h1, hb, F, ⟨h0, F1, F2, ⟨g1, gv⟩, g2, g3, g4, g5⟩, h3, h4⟩ := h
 obtain ⟨u, k1, k2, k3⟩ := Cs.at' ((Ad k f L).seen g1) hf hi hc
 obtain ⟨s, rfl⟩ := Cs.sv k2
 refine ⟨s, ⟨h1, hb, F, ⟨h0, F1, F2, ⟨g1, fun r hr => ?_⟩, g2, g3, g4, g5⟩, h3, h4⟩, fun w1 hw => (hw.cell (h0 _ (g4 _ k3.1))).trans k1⟩
 rcases List.mem_cons.1 hr with rfl | hr
 ·exact k2
 rcases List.mem_cons.1 hr with rfl | hr
 ·exact ⟨k3.1, k3.2, k1⟩
 ·exact gv r hr
theorem St.unview {o : As} {vl : List Vi} (h : St w0 (oV o vl :: m) rs w) : St w0 (o :: m) rs w :=
 St.iso (l := [oV o vl]) (l' := [o]) h fun _ ⟨h0, F1, F2, ⟨h1, _⟩, h⟩ => ⟨h0, F1, F2, h1, h⟩
theorem St.leafW [Inhabited T] {T' : Type} {k' : Nat} {f' : T' -> List Ce} {L' : List T'} {o : As} {vl : List Vi} (h : St w0 (oV o vl :: m) rs w) (hv : vR v (Ad k f L) ∈ vl) (hf : ∀ x, (f x).length = k) {i j : Nat} (hi : i < L.length) (hc : (f (el L i))[j]? = some (Ad k' f' L')) :
  ∃ s : Sv, St w0 (oV o (vR s.v (Ad k' f' L') :: vl) :: m) rs w /\ ∀ w1, Rel w w1 -> w1.cell? (Bq v (i * k + j)) = some s.v := by
 obtain ⟨h1, hb, F, ⟨h0, F1, F2, ⟨g1, gv⟩, g2, g3, g4, g5⟩, h3, h4⟩ := h
 obtain ⟨u, k1, k2, k3⟩ := Cs.at' (vRg (gv _ hv)) hf hi hc
 obtain ⟨s, rfl⟩ := Cs.sv k2
 refine ⟨s, ⟨h1, hb, F, ⟨h0, F1, F2, ⟨g1, fun r hr => ?_⟩, g2, g3, g4, g5⟩, h3, h4⟩, fun w1 hw => (hw.cell (h0 _ (g4 _ k3.1))).trans k1⟩
 rcases List.mem_cons.1 hr with rfl | hr
 ·exact k2
 ·exact gv r hr
def Sv.cut (s : Sv) (k lo hi : Nat) : Sv := ⟨if s.c - lo = 0 then s.p else s.p.map (·.add (lo * k)), hi - lo, s.c - lo⟩
theorem Wi {A : Type} {f : T -> List A} (hf : ∀ x, (f x).length = k) : ∀ (L : List T) (i : Nat), (L.take i).flatMap f = (L.flatMap f).take (i * k)
 | [], i => by simp
 | x :: L, 0 => by simp
 | x :: L, i + 1 => by
  rw [List.take_succ_cons, List.flatMap_cons, Wi hf L i, List.flatMap_cons, List.take_append, hf, List.take_of_length_le (l := f x) (by rw [hf, Nat.add_mul]; omega)]
  congr 2
  rw [Nat.add_mul]; omega
theorem Wg {A : Type} {f : T -> List A} (hf : ∀ x, (f x).length = k) : ∀ (L : List T) (i : Nat), (L.drop i).flatMap f = (L.flatMap f).drop (i * k)
 | [], i => by simp
 | x :: L, 0 => by simp
 | x :: L, i + 1 => by
  rw [List.drop_succ_cons, Wg hf L i, List.flatMap_cons, List.drop_append, hf, @List.drop_eq_nil_of_le _ (f x) _ (by rw [hf, Nat.add_mul]; omega), List.nil_append]
  congr 1
  rw [Nat.add_mul]; omega
theorem Att {S : Bs} : ∀ (n : Nat) {cs : List Ce} {vs : List Value}, Br S w cs vs -> Br S w (cs.drop n) (vs.drop n)
 | 0, _, _, h => by simpa using h
 | n + 1, [], _, h => by have : _ = [] := h; subst this; simp [Br]
 | n + 1, c :: cs, _, ⟨v, r, e, _, h2⟩ => by subst e; simpa using Att n h2
theorem Atu {S : Bs} : ∀ (n : Nat) {cs : List Ce} {vs : List Value}, Br S w cs vs -> Br S w (cs.take n) (vs.take n)
 | 0, _, _, h => by simp [Br]
 | n + 1, [], _, h => by have : _ = [] := h; subst this; simp [Br]
 | n + 1, c :: cs, _, ⟨v, r, e, h1, h2⟩ => by subst e; exact ⟨v, r.take n, rfl, h1, Atu n h2⟩
theorem Cs.cut (hf : ∀ x, (f x).length = k) {s : Sv} {lo hi : Nat} (h1 : lo <= hi) (h2 : hi <= L.length) (h : (Ad k f L).rd S w s.v) : (Ad k f ((L.take hi).drop lo)).rd S w (s.cut k lo hi).v := by
 obtain ⟨a, cap, e, hc1, hc2, h3⟩ := h
 obtain ⟨rfl, e2, rfl⟩ : s.p = a /\ s.n = L.length /\ s.c = cap := by simpa [Sv.v] using e
 have hlen : ((L.take hi).drop lo).length = hi - lo := by simp; omega
 refine ⟨_, s.c - lo, by rw [hlen]; rfl, by omega, by omega, fun hne => ?_⟩
 have hlt : lo < hi := by
  have : ((L.take hi).drop lo).length ≠ 0 := fun e => hne (List.eq_nil_of_length_eq_zero e)
  omega
 obtain ⟨b, off, xs, ea, hb, hl, hcell, hr⟩ := h3 (by intro e; subst e; simp at h2; omega)
 have hhk := Nat.mul_le_mul_right k h2
 refine ⟨b, off + lo * k, (xs.take (hi * k)).drop (lo * k), ?_, fun j hj => ?_, ?_, fun j u hj => ?_, ?_⟩
 ·simp only [Sv.cut]
  rw [if_neg (by omega), ea]
  simp [Addr.add_lit]
 ·rw [hlen, Nat.sub_mul] at hj
  rw [Nat.add_assoc]
  exact hb _ (by omega)
 ·rw [List.length_drop, List.length_take, hl, hlen, Nat.sub_mul]
  have := Nat.mul_le_mul_right k h2
  omega
 ·rw [List.getElem?_drop, List.getElem?_take] at hj
  split at hj
  ·rw [Nat.add_assoc]; exact hcell _ _ hj
  ·cases hj
 ·rw [Wg hf, Wi hf]
  exact Att _ (Atu _ hr)
theorem St.cutV (hf : ∀ x, (f x).length = k) {s : Sv} {lo hi : Nat} {o : As} {vl : List Vi} (h1 : lo <= hi) (h2 : hi <= L.length) (h : St w0 (oV o vl :: m) rs w) (hr : vR s.v (Ad k f L) ∈ vl) : St w0 (oV o (vR (s.cut k lo hi).v (Ad k f ((L.take hi).drop lo)) :: vl) :: m) rs w := by
 refine St.iso (l := [oV o vl]) (l' := [oV o (vR (s.cut k lo hi).v (Ad k f ((L.take hi).drop lo)) :: vl)]) h fun F ⟨h0, F1, F2, ⟨g1, gv⟩, g⟩ => ⟨h0, F1, F2, ⟨g1, fun r hr' => ?_⟩, g⟩
 rcases List.mem_cons.1 hr' with rfl | hr'
 ·exact Cs.cut hf h1 h2 (vRg (gv _ hr))
 ·exact gv r hr'
theorem Aa2 : ∀ (n : Nat) (cs : List Ce) (vs : List Value), Ao (cs.take n) (vs.take n) = (Ao cs vs).take n
 | 0, _, _ => by simp [Ao]
 | n + 1, [], _ => by simp [Ao]
 | n + 1, _ :: _, [] => by simp [Ao]
 | n + 1, c :: cs, v :: vs => by simp [Ao, Aa2 n cs vs]
theorem Aa1 : ∀ (n : Nat) (cs : List Ce) (vs : List Value), Ao (cs.drop n) (vs.drop n) = (Ao cs vs).drop n
 | 0, _, _ => by simp
 | n + 1, [], _ => by simp [Ao]
 | n + 1, _ :: _, [] => by simp [Ao]
 | n + 1, c :: cs, v :: vs => by simpa [Ao] using Aa1 n cs vs
theorem Sep.take {F : Bs} {m : List As} (n : Nat) (h : Sep m F w) : Sep (m.take n) F w := by
 rw [<- List.take_append_drop n m] at h
 obtain ⟨F1, F2, h1, _, _, h4, _⟩ := h.split
 exact h1.up h4 (by rw [List.take_append_drop] at h; exact h.lt)
theorem Sep.drop {F : Bs} {m : List As} (n : Nat) (h : Sep m F w) : Sep (m.drop n) F w := by
 rw [<- List.take_append_drop n m] at h
 obtain ⟨F1, F2, _, h2, _, _, h5⟩ := h.split
 exact h2.up h5 (by rw [List.take_append_drop] at h; exact h.lt)
theorem Own.cut (hf : ∀ x, (f x).length = k) {s : Sv} {lo hi : Nat} (h1 : lo <= hi) (h2 : hi <= L.length) {F : Bs} (h : (Ad k f L).ow F w s.v) : (Ad k f ((L.take hi).drop lo)).ow F w (s.cut k lo hi).v := by
 obtain ⟨xs, hx, h0, F1, F2, ⟨g0, gl, gr⟩, g2, g3, g4, g5⟩ := h
 have hlen : ((L.take hi).drop lo).length = hi - lo := by simp; omega
 have hlo := Nat.mul_le_mul_right k h1
 have hhi := Nat.mul_le_mul_right k h2
 have hxl : ((xs.take (hi * k)).drop (lo * k)).length = (hi - lo) * k := by
  rw [List.length_drop, List.length_take, gl, Nat.sub_mul]; omega
 refine ⟨(xs.take (hi * k)).drop (lo * k), by rw [Kd hf, hlen, hxl], h0, F1, F2, ⟨g0, by rw [hlen, hxl], ?_⟩, ?_, g3, g4, g5⟩
 ·rcases gr with ⟨e, hn⟩ | ⟨b, off, cap, cur, e', hd, e, hb, hg, hnc, hcm, hsz, htk⟩
  ·left
   obtain ⟨e1, e2, e3⟩ : s.p = none /\ s.n = 0 /\ s.c = 0 := by simpa [Sv.v] using e
   have : hi = 0 := by omega
   have : lo = 0 := by omega
   subst_vars
   refine ⟨?_, by omega⟩
   simp [Sv.cut, Sv.v, e1, e3]
  ·right
   obtain ⟨e1, e2, rfl⟩ : s.p = some ⟨b, off, none⟩ /\ s.n = L.length /\ s.c = cap := by simpa [Sv.v] using e
   by_cases hz : s.c - lo = 0
   ·refine ⟨b, off, s.c - lo, cur, e', hd, ?_, fun j hj => by rw [hz, Nat.zero_mul] at hj; omega, hg, by omega, by omega, ?_, ?_⟩
    ·simp only [Sv.cut, Sv.v, if_pos hz, e1, hlen]
    ·rw [hz, Nat.zero_mul]; omega
    ·rw [hlen, show hi - lo = 0 by omega, Nat.zero_mul, List.take_zero]
     symm
     apply List.eq_nil_of_length_eq_zero
     rw [hxl, show hi - lo = 0 by omega, Nat.zero_mul]
   ·have hck := Nat.mul_le_mul_right k (show lo <= s.c by omega)
    refine ⟨b, off + lo * k, s.c - lo, cur, e', hd, ?_, fun j hj => by
     rw [Nat.sub_mul] at hj
     rw [Nat.add_assoc]
     exact hb _ (by omega), hg, by omega, by omega, ?_, ?_⟩
    ·simp only [Sv.cut, Sv.v, if_neg hz, e1, hlen]
     simp [Addr.add_lit]
    ·rw [Nat.sub_mul]
     have := Nat.mul_le_mul_right k (show lo <= s.c by omega)
     omega
    ·rw [hlen, <- htk, List.take_take, Nat.min_eq_left hhi, List.drop_take, List.drop_drop, <- Nat.sub_mul]
 ·rw [Wg hf, Wi hf, Aa1, Aa2]
  exact (g2.take _).drop _
theorem St.cutO (hf : ∀ x, (f x).length = k) {s : Sv} {lo hi : Nat} (h1 : lo <= hi) (h2 : hi <= L.length) (h : St w0 (oC (Ad k f L) s.v :: m) rs w) : St w0 (oC (Ad k f ((L.take hi).drop lo)) (s.cut k lo hi).v :: m) rs w :=
 St.iso (l := [oC (Ad k f L) s.v]) (l' := [oC (Ad k f ((L.take hi).drop lo)) (s.cut k lo hi).v]) h fun _ ⟨h0, F1, F2, h3, h⟩ => ⟨h0, F1, F2, Own.cut hf h1 h2 h3, h⟩
end
section
variable {P : Program} {n : Nat} {env : Env} {w : World} {d : Option Tmp} {ty : TypeId} {pos : String} {af : Array Edge} {g : Option (Nat × Bool)}
variable {T : Type} {k : Nat} {f : T -> List Ce} {L : List T} {S : Bs} {w1 : World} {v : Value}
theorem Bc7 {x : Operand} {t e : TypeId} (ht : P.underlying t = some (.slice e)) (hx : ev env x = some v) (h : (Ad k f L).rd S w1 v) :
  Runs P n env w ⟨d, .call { callee := .builtin .len, args := #[x], argTypes := #[t] }, ty, pos, af, g⟩ (.int .i64 (L.length : Int)) w := by
 obtain ⟨a, cap, rfl, _⟩ := h
 exact Qn ht hx
theorem Bc4 {x y : Operand} {t e : TypeId} {bytes : Nat} {z : Value} {i : Int} (ht : P.underlying t = some (.slice e)) (hs : Sz P e k bytes z)
  (hx : ev env x = some v) (hy : ev env y = some (.int .i64 i)) (h : (Ad k f L).rd S w1 v) (h0 : 0 <= i /\ i < (L.length : Int)) :
  Runs P n env w ⟨d, .indexAddr t x y, ty, pos, af, g⟩ (.pointer (some (Bq v (i.toNat * k)))) w := fun a ha => by
 obtain ⟨b, off, len, cap, rfl⟩ := Cs.ptr h (i := i.toNat) (by omega)
 obtain ⟨a1, cap1, e1, _⟩ := h
 obtain ⟨_, rfl, _⟩ : _ /\ len = L.length /\ _ := by simpa using e1
 simp [execOp, ha.ev hx, ha.ev hy, Instr.indexAt, run_underlying ht, asIntOf, h0, hs.run, Bq, Addr.add_lit]
theorem Sv.cut_eq (s : Sv) (k lo hi : Nat) : (s.cut k lo hi).v = .slice (if s.c - lo = 0 then s.p else s.p.map (·.add (lo * k))) (hi - lo) (s.c - lo) := rfl
theorem Bdp {x : Operand} {lo hi : Operand} {t e : TypeId} {bytes : Nat} {z : Value} {s : Sv} {i j : Int} (ht : P.underlying t = some (.slice e)) (hs : Sz P e k bytes z)
  (hx : ev env x = some s.v) (hlo : ev env lo = some (.int .i64 i)) (hhi : ev env hi = some (.int .i64 j)) (h : (Ad k f L).rd S w1 s.v) (h0 : 0 <= i /\ i <= j /\ j <= (L.length : Int)) :
  Runs P n env w ⟨d, .slice t x (some lo) (some hi) none, ty, pos, af, g⟩ (s.cut k i.toNat j.toNat).v w := fun b hb => by
 obtain ⟨s', e1, e2, hc, _⟩ := Cs.form h
 obtain rfl : s = s' := by cases s; cases s'; simpa [Sv.v] using e1
 have h4 : 0 <= j /\ j <= (s.c : Int) := by omega
 have h5 : 0 <= i /\ i <= (j.toNat : Int) := by omega
 have e6 : (s.c - i.toNat = 0) = (s.c = i.toNat) := by
  apply propext
  omega
 have hx' : b.eval x = .slice s.p s.n s.c := hb.ev hx
 simp only [execOp, hx', hb.ev hlo, hb.ev hhi, Option.map_some, Option.map_none, Instr.sliceAt, Sem.run_bind, run_underlying ht, Result.andThen_ok, Instr.slice, Instr.sliceBounds, Instr.sliceBound, asIntOf, Sem.run_pure, Sem.run_ite, if_pos h4, if_pos h5, hs.run, Option.isSome_none, Bool.false_eq_true, if_false, e6, Sv.cut_eq]
theorem Bdr {x hi : Operand} {t e : TypeId} {bytes : Nat} {z : Value} {s : Sv} {j : Int} (ht : P.underlying t = some (.slice e)) (hs : Sz P e k bytes z)
  (hx : ev env x = some s.v) (hhi : ev env hi = some (.int .i64 j)) (h : (Ad k f L).rd S w1 s.v) (h0 : 0 <= j /\ j <= (L.length : Int)) :
  Runs P n env w ⟨d, .slice t x none (some hi) none, ty, pos, af, g⟩ (s.cut k 0 j.toNat).v w := fun b hb => by
 obtain ⟨s', e1, e2, hc, _⟩ := Cs.form h
 obtain rfl : s = s' := by cases s; cases s'; simpa [Sv.v] using e1
 have h4 : 0 <= j /\ j <= (s.c : Int) := by omega
 have hx' : b.eval x = .slice s.p s.n s.c := hb.ev hx
 simp only [execOp, hx', hb.ev hhi, Option.map_some, Option.map_none, Instr.sliceAt, Sem.run_bind, run_underlying ht, Result.andThen_ok, Instr.slice, Instr.sliceBounds, Instr.sliceBound, asIntOf, Sem.run_pure, Sem.run_ite, if_pos h4, hs.run, Nat.sub_zero, Sv.cut_eq]
theorem Bds {x lo : Operand} {t e : TypeId} {bytes : Nat} {z : Value} {s : Sv} {i : Int} (ht : P.underlying t = some (.slice e)) (hs : Sz P e k bytes z)
  (hx : ev env x = some s.v) (hlo : ev env lo = some (.int .i64 i)) (h : (Ad k f L).rd S w1 s.v) (h0 : 0 <= i /\ i <= (L.length : Int)) :
  Runs P n env w ⟨d, .slice t x (some lo) none none, ty, pos, af, g⟩ (s.cut k i.toNat L.length).v w := fun b hb => by
 obtain ⟨s', e1, e2, hc, _⟩ := Cs.form h
 obtain rfl : s = s' := by cases s; cases s'; simpa [Sv.v] using e1
 have h5 : 0 <= i /\ i <= (L.length : Int) := h0
 have e6 : (s.c - i.toNat = 0) = (s.c = i.toNat) := by
  apply propext
  omega
 have hx' : b.eval x = .slice s.p L.length s.c := by rw [<- e2]; exact hb.ev hx
 simp only [execOp, hx', hb.ev hlo, Option.map_some, Option.map_none, Instr.sliceAt, Sem.run_bind, run_underlying ht, Result.andThen_ok, Instr.slice, Instr.sliceBounds, Instr.sliceBound, asIntOf, Sem.run_pure, Sem.run_ite, if_pos h5, hs.run, Option.isSome_none, Bool.false_eq_true, if_false, e6, Sv.cut_eq]
end
end
section
open Go.RowKit
section
variable {w0 : Base} {w w' : World} {m l l' own : List As} {rs : List Rd} {c : Ce} {v : Value} {S : Bs}
variable {T : Type} {k : Nat} {f : T -> List Ce} {L : List T}
def Z (w : World) (own l : List As) : Prop := ∀ F, Sep own F w -> Sep l F w
theorem zN : Z w [] [] := fun _ h => h
theorem zI : Z w l l := fun _ h => h
theorem Sep.cons0 {F : Bs} {a : As} (ha : ∀ w, a.ok (fun _ => False) w) (h : Sep m F w) : Sep (a :: m) F w :=
 ⟨h.lt, fun _ => False, F, ha w, h, (fun _ h => h.elim), (fun _ h => h.elim), fun _ h => h⟩
theorem zP {a : As} (ha : ∀ w, a.ok (fun _ => False) w) (h : Z w own l) : Z w own (a :: l) := fun F hF => Sep.cons0 ha (h F hF)
theorem pV (u : Value) (hu : u.oneCell' = true) : ∀ w, (oC (cV u hu) u).ok (fun _ => False) w := fun _ => ⟨rfl, fun _ h => h.elim⟩
theorem At0 (k : Nat) : ∀ w, (Bf k (.slice none 0 0) 0 []).ok (fun _ => False) w := fun _ => ⟨(fun _ h => h.elim), by simp, .inl ⟨rfl, rfl⟩⟩
theorem pN (k : Nat) (f : T -> List Ce) : ∀ w, (oC (Ad k f []) (.slice none 0 0)).ok (fun _ => False) w := fun w =>
 ⟨[], rfl, (fun _ h => h.elim), fun _ => False, fun _ => False, At0 k w, (fun _ h => h.elim), (fun _ h => h.elim), (fun _ h => h.elim), fun _ h => h.elim⟩
theorem St.pure (h : St w0 m rs w) {a : As} (ha : ∀ w, a.ok (fun _ => False) w) : St w0 (a :: m) rs w :=
 St.iso (l := []) (l' := [a]) h fun _ hF => Sep.cons0 ha hF
theorem St.nil (h : St w0 m rs w) (k : Nat) (f : T -> List Ce) : St w0 (oC (Ad k f []) (.slice none 0 0) :: m) rs w := h.pure (pN k f)
theorem St.drop {a : As} (h : St w0 (a :: m) rs w) : St w0 m rs w := St.iso (l := [a]) (l' := []) h fun _ hF => hF.tail
def Yf : List Nat -> List As -> List As
 | [], m => m
 | k :: ks, m => match m[k]? with
  | some a => Yf ks (a :: m.eraseIdx k)
  | none => m
theorem St.sel : ∀ (ks : List Nat) {m : List As}, St w0 m rs w -> St w0 (Yf ks m) rs w
 | [], _, h => h
 | k :: ks, m, h => by
  unfold Yf
  cases hk : m[k]? with
  | none => exact h
  | some a =>
   refine St.sel ks (h.perm ?_)
   have h1 := (List.getElem?_eq_some_iff.1 hk)
   obtain ⟨hlt, rfl⟩ := h1
   have h2 : m = m.take k ++ m[k] :: m.drop (k + 1) := by simp
   rw [List.eraseIdx_eq_take_drop_succ]
   conv => lhs; rw [h2]
   exact List.perm_middle
theorem St.pl (ks : List Nat) (h : St w0 m rs w) : St w0 (Yf ks m) rs w := St.sel ks h
theorem St.tk (n : Nat) (h : St w0 m rs w) : St w0 (m.take n) rs w := by
 obtain ⟨h1, hb, F, h2, h3, h4⟩ := h
 exact ⟨h1, hb, F, h2.take n, h3, h4⟩
theorem St.selO (h : St w0 (oC c v :: m) rs w) : St w0 m (rV v c :: rs) w :=
 St.fix (l := [oC c v]) (r := rV v c) h fun _F ⟨_, _F1, _, h1, _, _, h4, _⟩ => c.mono h4 (Lc.refl _ _) (c.seen h1)
theorem St.nilR (h : St w0 m rs w) (k : Nat) (f : T -> List Ce) : St w0 m (rV (.slice none 0 0) (Ad k f []) :: rs) w := (h.nil k f).selO
theorem St.unrow (h : St w0 (oC (Ad k f L) v :: m) rs w) : ∃ xs : List Value, (L.flatMap f).length = xs.length /\ St w0 (Bf k v L.length xs :: (Ao (L.flatMap f) xs ++ m)) rs w := by
 obtain ⟨h1, hb, F, ⟨h0, F1, F2, ⟨xs, g1, g2⟩, g3, g4, g5, g6⟩, h3, h4⟩ := h
 have h5 := (Sep.join g2 g3 g4).up (F' := F) (fun b hb => by
  rcases hb with hb | hb
  ·exact g5 b hb
  ·exact g6 b hb) h0
 exact ⟨xs, g1, h1, hb, F, h5, h3, h4⟩
theorem St.rerow {xs : List Value} (hl : (L.flatMap f).length = xs.length) (h : St w0 (Bf k v L.length xs :: (Ao (L.flatMap f) xs ++ m)) rs w) : St w0 (oC (Ad k f L) v :: m) rs w :=
 St.iso (l := Bf k v L.length xs :: Ao (L.flatMap f) xs) (l' := [oC (Ad k f L) v]) h fun F hF => ⟨hF.lt, F, fun _ => False, ⟨xs, hl, hF⟩, (fun _ h => h.elim), (fun _ _ h => h), (fun _ h => h), fun _ h => h.elim⟩
theorem Auw {b j : Nat} {cs : Array Value} {e : TypeId} {hd : Nat × Nat} {u : Value} (h : w.heap[b]? = some (.cells cs e hd)) : (w.setCell ⟨b, j, none⟩ u).heap[b]? = some (.cells (cs.setIfInBounds j u) e hd) := by
 simp [World.setCell, Array.getElem?_modify, h]
theorem Bfm {b j : Nat} {u : Value} {X : Bs} (hX : X (b, j)) : RelX X w (w.setCell ⟨b, j, none⟩ u) :=
 ⟨rfl, rfl, rfl, by simp [World.setCell], fun k hk => by
  by_cases e : k = b
  ·subst e
   cases hg : w.heap[k]? with
   | none => rw [Array.getElem?_eq_getElem hk] at hg; cases hg
   | some o =>
    cases o with
    | cells cs e hd => exact .inr ⟨cs, cs.setIfInBounds j u, e, hd, rfl, Auw hg, by simp, fun i hi => Array.getElem?_setIfInBounds_ne fun e => hi (by rw [<- e]; exact hX)⟩
    | _ => exact .inl (by simp [World.setCell, Array.getElem?_modify, hg])
  ·exact .inl (Below.heap_setCell _ _ _ _ e)⟩
def Mm : List Value -> Nat -> List Value -> List Value
 | cs, _, [] => cs
 | cs, o, v :: r => Mm (cs.set o v) (o + 1) r
theorem Ji : ∀ (vs : List Value) (cs : List Value) (o : Nat), o + vs.length <= cs.length -> Mm cs o vs = cs.take o ++ vs ++ cs.drop (o + vs.length)
 | [], cs, o, _ => by simp [Mm]
 | v :: r, cs, o, h => by
  simp only [List.length_cons] at h
  rw [Mm, Ji r _ _ (by rw [List.length_set]; omega)]
  have h1 : (cs.set o v).take (o + 1) = cs.take o ++ [v] := by
   rw [List.take_add_one, List.take_set_of_le (Nat.le_refl _), List.getElem?_set_self (by omega)]
   rfl
  have h2 : (cs.set o v).drop (o + 1 + r.length) = cs.drop (o + (r.length + 1)) := by
   rw [List.drop_set_of_lt (by omega)]
   congr 1; omega
  rw [h1, h2]
  simp
theorem Qu {b : Nat} {e : TypeId} {hd : Nat × Nat} : ∀ (vs : List Value) (o : Nat) (cs : Array Value) (w : World), w.heap[b]? = some (.cells cs e hd) -> (w.setCells b o vs).heap[b]? = some (.cells (Mm cs.toList o vs).toArray e hd)
 | [], o, cs, w, h => by simpa [World.setCells, Mm] using h
 | v :: r, o, cs, w, h => by
  rw [World.setCells, Qu r (o + 1) _ _ (Auw h), Mm, Array.toList_setIfInBounds]
theorem Tu {b : Nat} {X : Bs} : ∀ (vs : List Value) (o : Nat) (w : World), (∀ j, o <= j -> j < o + vs.length -> X (b, j)) -> RelX X w (w.setCells b o vs)
 | [], _, w, _ => RelX.refl X w
 | v :: r, o, w, hX => (Bfm (hX o (Nat.le_refl _) (by simp))).trans (Tu r (o + 1) _ fun j h1 h2 => hX j (by omega) (by simp only [List.length_cons]; omega))
theorem frz {b x : Nat} {cur : Array Value} {e : TypeId} {hd : Nat × Nat} (hg : w.heap[b]? = some (.cells cur e hd)) (hw : Wr hd cur.size) (hx : x < cur.size) : w.frozen? ⟨b, x, none⟩ = false := by
 have h := hw x hx
 obtain ⟨lo, hi⟩ := hd
 have e : w.frozen? ⟨b, x, none⟩ = (decide (lo <= x) && decide (x < hi)) := by simp only [World.frozen?, hg]
 rw [e]
 by_cases h1 : lo <= x
 ·rw [decide_eq_false fun h2 => h ⟨h1, h2⟩, Bool.and_false]
 ·rw [decide_eq_false h1, Bool.false_and]
theorem Sep.head {F : Bs} {a a' : As} (h : Sep (a :: m) F w) (hi : ∀ F, a.ok F w -> ∃ F', a'.ok F' w' /\ RelX F w w' /\ ∀ b, F' b -> F b \/ w.heap.size <= b.1) : ∃ F', Sep (a' :: m) F' w' /\ RelX F w w' /\ ∀ b, F' b -> F b \/ w.heap.size <= b.1 := by
 obtain ⟨h0, F1, F2, h1, h2, h3, h4, h5⟩ := h
 obtain ⟨F', k1, k2, k3⟩ := hi F1 h1
 have g2 : Sep m F2 w' := h2.loc (k2.lc fun b hb h' => h3 b h' hb)
 refine ⟨fun b => F' b \/ F2 b, ⟨fun b hb => ?_, F', F2, k1, g2, fun b hb h' => ?_, fun _ h => .inl h, fun _ h => .inr h⟩, k2.mono h4, fun b hb => ?_⟩
 ·rcases hb with hb | hb
  ·exact a'.lt k1 hb
  ·exact g2.lt b hb
 ·rcases k3 b hb with h'' | h''
  ·exact h3 b h'' h'
  ·have := h2.lt b h'; omega
 ·rcases hb with hb | hb
  ·exact (k3 b hb).imp (h4 b) id
  ·exact .inl (h5 b hb)
theorem St.updHead {a a' : As} (h : St w0 (a :: m) rs w) (hi : ∀ F, a.ok F w -> ∃ F', a'.ok F' w' /\ RelX F w w' /\ ∀ b, F' b -> F b \/ w.heap.size <= b.1) : St w0 (a' :: m) rs w' :=
 St.upd (l := [a]) (l' := [a']) h fun _ hF => hF.head hi
theorem St.alloc (h : St w0 m rs w) (cs : Array Value) (e : TypeId) : St w0 (Aw w.heap.size cs e :: m) rs (w.alloc (.cells cs e)) :=
 St.upd (l := []) (l' := [Aw w.heap.size cs e]) h fun F hF => ⟨fun b => b.1 = w.heap.size, ⟨fun b hb => by rw [show b.1 = w.heap.size from hb]; simp, fun b => b.1 = w.heap.size, fun _ => False, ⟨fun b hb => by rw [show b.1 = w.heap.size from hb]; simp, fun _ _ => rfl, heap_alloc_new w _⟩, (fun _ h => h.elim), (fun _ _ h => h), (fun _ h => h), fun _ h => h.elim⟩, (Rel.alloc w _).x F, fun b hb => .inr (Nat.le_of_eq (Eq.symm hb))⟩
theorem St.allocRow (h : St w0 m rs w) {n cap : Nat} (xs sp : List Value) (cur : Array Value) (e : TypeId) (hcur : cur.toList = xs ++ sp) (hl : xs.length = n * k) (hn : n <= cap) (hc : cap <= maxLen) (hs : cur.size = cap * k) : St w0 (Bf k (Sv.v ⟨some ⟨w.heap.size, 0, none⟩, n, cap⟩) n xs :: m) rs (w.alloc (.cells cur e)) :=
 St.iso (l := [Aw w.heap.size cur e]) (l' := [Bf k (Sv.v ⟨some ⟨w.heap.size, 0, none⟩, n, cap⟩) n xs]) (h.alloc cur e) fun _ ⟨h0, F1, F2, ⟨h1, h2, h3⟩, h4⟩ =>
  ⟨h0, F1, F2, ⟨h1, hl, .inr ⟨_, 0, cap, _, e, _, rfl, fun j hj => by rw [Nat.zero_add]; exact h2 j (by omega), ⟨h3, wr0 _⟩, hn, hc, by omega, by rw [hcur]; simp [<- hl]⟩⟩, h4⟩
theorem St.drew (h : St w0 m rs w) : St w0 m rs w.drew := h.call ((Rel.refl w).drew)
end
section
variable {P : Program} {n : Nat} {ops : Array Oper} {Q : Post} {env : Env} {w : World} {w0 : Base} {rest : List Oper} {ty : TypeId} {pos : String} {af : Array Edge} {m own : List As} {rs : List Rd}
variable {T : Type} {k : Nat} {f : T -> List Ce} {L : List T}
theorem St.appRow {t tx tyy e : TypeId} {size bytes : Nat} {z : Value} {s : Sv} {n n' : Nat} {xs news : List Value} {x : Value} (ht : P.underlying t = some (.slice e)) (hs : Sz P e size bytes z) (h : St w0 (Bf size s.v n xs :: m) rs w) (hsrc : Src P size tx x n' news w)
  (h63 : n + n' <= maxLen) (hby : (n + n') * bytes <= 140737488355328) :
  ∃ (s' : Sv) (w' : World), (Builtin.append_ #[t, tx] tyy #[s.v, x]).run P w = .ok s'.v w' /\ St w0 (Bf size s'.v (n + n') (xs ++ news) :: m) rs w' := by
 obtain ⟨i, hi, hz, hsz, hbt⟩ := hs.info
 subst hsz
 have hzs := hs.2.1
 have h63i : ((n + n' : Nat) : Int) <= 9223372036854775807 := by simp only [maxLen] at h63; omega
 obtain ⟨F0, g0, gl, gr⟩ := h.at' (List.mem_cons_self ..)
 have hnl := hsrc.newsLen
 rcases gr with ⟨e1, rfl⟩ | ⟨b, off, cap, cur, e', hd, e1, hb, ⟨hg, hwr⟩, hnc, hcm, hcs, htk⟩
 ·obtain ⟨ep, en, ec⟩ : s.p = none /\ s.n = 0 /\ s.c = 0 := by simpa [Sv.v] using e1
  have hxs : xs = [] := List.eq_nil_of_length_eq_zero (by simpa using gl)
  subst hxs
  by_cases hn' : n' = 0
  ·subst hn'
   have hne : news = [] := List.eq_nil_of_length_eq_zero (by simpa using hnl)
   subst hne
   refine ⟨s, w, ?_, by simpa using h⟩
   rw [e1]
   rcases hsrc.kind with ⟨e2, hk⟩ | hk <;> simp [Builtin.append_, run_underlying ht, run_underlying hk, sizeOf, typeInfo, hi, hsrc.len, hsrc.cells]
  ·have hr := run_append_grow_src (P := P) w t tx tyy e i z ht hi hz none 0 0 [] (run_firstCells_none _ _ _ _ _) x n' news hsrc (by omega) (by simpa using h63i) (by rw [hbt]; exact growslice_fits (by omega) (by simpa using hby))
   refine ⟨⟨some ⟨w.heap.size, 0, none⟩, 0 + n', grownCap w (0 + n') 0 e⟩, _, by rw [e1]; exact hr, ?_⟩
   have hd := (h.drop).drew
   have hge := grownCap_ge w (0 + n') 0 e
   have hc := grownCap_le_maxLen w (0 + n') 0 e (by omega)
   exact hd.allocRow (k := i.size) (n := 0 + n') (cap := grownCap w (0 + n') 0 e) ([] ++ news) (Builtin.zeroCells z.cells (grownCap w (0 + n') 0 e - (0 + n'))).toList _ e (by simp) (by simpa using hnl) hge hc (by
    rw [Array.size_append, size_zeroCells, hzs, List.nil_append, List.size_toArray, hnl, <- Nat.add_mul]; congr 1; omega)
 ·obtain ⟨ep, en, ec⟩ : s.p = some ⟨b, off, none⟩ /\ s.n = n /\ s.c = cap := by simpa [Sv.v] using e1
  have hnk : n * i.size <= cap * i.size := Nat.mul_le_mul_right _ hnc
  by_cases hroom : n + n' <= cap
  ·have hfit : off + n * i.size + news.length <= cur.size := by
    have := Nat.mul_le_mul_right i.size hroom
    rw [Nat.add_mul] at this
    omega
   have hr := run_append_room_src (P := P) w t tx tyy e i ht hi b off n cap x n' news hsrc hroom
    (fun j hj => by simp only [World.cell?, hg]; simp; omega)
    (fun j hj => frz hg hwr (by omega))
   refine ⟨⟨some ⟨b, off, none⟩, n + n', cap⟩, _, by rw [e1]; exact hr, ?_⟩
   refine h.updHead fun F ⟨q0, ql, qr⟩ => ?_
   rcases qr with ⟨q1, _⟩ | ⟨b2, off2, cap2, cur2, e2, hd2, q1, qb, ⟨qg, qw⟩, _, _, _, qtk⟩
   ·rw [e1] at q1; cases q1
   ·obtain ⟨⟨rfl, rfl⟩, rfl⟩ : (b = b2 /\ off = off2) /\ cap = cap2 := by rw [e1] at q1; simpa using q1
    rw [hg] at qg
    obtain ⟨rfl, rfl, rfl⟩ : cur = cur2 /\ e' = e2 /\ hd = hd2 := by simpa using qg
    have hrm := Nat.mul_le_mul_right i.size hroom
    rw [Nat.add_mul] at hrm
    have hrel := Tu (X := F) (b := b) news (off + n * i.size) w fun j h1 h2 => by
     have := qb (j - off) (by omega)
     rwa [show off + (j - off) = j by omega] at this
    refine ⟨F, ⟨fun b hb => Nat.lt_of_lt_of_le (q0 b hb) hrel.size, by rw [List.length_append, gl, hnl, Nat.add_mul], .inr ⟨b, off, cap, _, e', hd, rfl, qb, ⟨Qu news _ cur w hg, ?_⟩, hroom, hcm, ?_, ?_⟩⟩, hrel, fun _ hb => .inl hb⟩
    ·rw [Ji _ _ _ (by rw [Array.length_toList]; exact hfit), show (cur.toList.take (off + n * i.size) ++ news ++ cur.toList.drop (off + n * i.size + news.length)).toArray.size = cur.size by simp only [List.size_toArray, List.length_append, List.length_take, List.length_drop, Array.length_toList]; omega]
     exact hwr
    ·rw [Ji _ _ _ (by rw [Array.length_toList]; exact hfit)]
     simp only [List.size_toArray, List.length_append, List.length_take, List.length_drop, Array.length_toList]; omega
    ·rw [Ji _ _ _ (by rw [Array.length_toList]; exact hfit)]
     have ha : (cur.toList.take (off + n * i.size)).length = off + n * i.size := by rw [List.length_take, Array.length_toList]; omega
     have hd1 : (cur.toList.take (off + n * i.size)).drop off = xs := by rw [List.drop_take, Nat.add_sub_cancel_left]; exact htk
     rw [List.append_assoc, List.drop_append_of_le_length (by omega), hd1, <- List.append_assoc, List.take_append_of_le_length (by rw [List.length_append, gl, hnl, Nat.add_mul]; omega)]
     rw [List.take_of_length_le (by rw [List.length_append, gl, hnl, Nat.add_mul]; omega)]
  ·have hcell : ∀ j u, xs[j]? = some u -> w.drew.cell? ((⟨b, off, none⟩ : Addr).add j) = some u := fun j u hj => by
    rw [<- htk, List.getElem?_take] at hj
    split at hj
    ·rw [List.getElem?_drop, Array.getElem?_toList] at hj
     rw [Addr.add_lit]
     have hg' : w.drew.heap[b]? = some (.cells cur e' hd) := hg
     simp [World.cell?, hg', hj]
    ·cases hj
   have hr := run_append_grow_src (P := P) w t tx tyy e i z ht hi hz (some ⟨b, off, none⟩) n cap xs (run_firstCells_some _ _ _ _ _ _ _ gl hcell) x n' news hsrc (by omega) h63i (by rw [hbt]; exact growslice_fits (by omega) hby)
   refine ⟨⟨some ⟨w.heap.size, 0, none⟩, n + n', grownCap w (n + n') cap e⟩, _, by rw [e1]; exact hr, ?_⟩
   have hge := grownCap_ge w (n + n') cap e
   have hc := grownCap_le_maxLen w (n + n') cap e (by omega)
   exact ((h.drop).drew).allocRow (k := i.size) (n := n + n') (cap := grownCap w (n + n') cap e) (xs ++ news) (Builtin.zeroCells z.cells (grownCap w (n + n') cap e - (n + n'))).toList _ e (by simp) (by rw [List.length_append, gl, hnl, Nat.add_mul]) hge hc (by
    rw [Array.size_append, size_zeroCells, hzs, List.size_toArray, List.length_append, gl, hnl, <- Nat.add_mul, <- Nat.add_mul]; congr 1; omega)
theorem St.app {t tx tyy e : TypeId} {size bytes : Nat} {z : Value} {s : Sv} {n' : Nat} {news : List Value} {x : Value} {M : List T} (ht : P.underlying t = some (.slice e)) (hs : Sz P e size bytes z) (h : St w0 (oC (Ad size f L) s.v :: (own ++ m)) rs w) (hsrc : Src P size tx x n' news w)
  (hM : M.length = n') (hl : (M.flatMap f).length = news.length) (hz : Z w own (Ao (M.flatMap f) news)) (h63 : L.length + n' <= maxLen) (hby : (L.length + n') * bytes <= 140737488355328) :
  ∃ (s' : Sv) (w' : World), (Builtin.append_ #[t, tx] tyy #[s.v, x]).run P w = .ok s'.v w' /\ St w0 (oC (Ad size f (L ++ M)) s'.v :: m) rs w' := by
 obtain ⟨xs, h1, h2⟩ := h.unrow
 have h2' : St w0 (Bf size s.v L.length xs :: (Ao (L.flatMap f) xs ++ (Ao (M.flatMap f) news ++ m))) rs w := by
  refine (St.iso (l := own) (l' := Ao (M.flatMap f) news) (m := Bf size s.v L.length xs :: (Ao (L.flatMap f) xs ++ m)) (h2.perm ?_) hz).perm ?_
  ·exact (List.perm_append_comm_assoc ..).cons _ |>.trans List.perm_middle.symm
  ·exact List.perm_middle.trans ((List.perm_append_comm_assoc ..).cons _)
 obtain ⟨s', w', hr, h3⟩ := h2'.appRow (tyy := tyy) ht hs hsrc h63 hby
 refine ⟨s', w', hr, St.rerow (xs := xs ++ news) (by rw [List.flatMap_append, List.length_append, List.length_append, h1, hl]) ?_⟩
 rw [List.flatMap_append, J3 h1, List.append_assoc, List.length_append, hM]
 exact h3
theorem At4 {t e : TypeId} {size bytes : Nat} {z v : Value} (ht : P.underlying t = some (.slice e)) (hs : Sz P e size bytes z) (hvs : v.cells.size = size) (hsm : Nat.ble size 1000 = true) :
  (Instr.buildSlice t 1 #[(0, v)]).run P w = .ok (.slice (some ⟨w.heap.size, 0, none⟩) 1 1) (w.alloc (.cells v.cells e)) := by
 obtain ⟨i, hi, hz, hsz, hbt⟩ := hs.info
 have hpos := hs.2.2
 have hsm' : size <= 1000 := by simpa using hsm
 have hfill : Instr.fill (fun j => some (j * i.size, i.size)) ((Array.range (1 * i.size)).map (z.cells[· % z.cells.size]!)) [(0, v)] = some v.cells := by
  have key : ∀ (l : List Value) (p : Nat) (cs : Array Value), p + l.length = cs.size -> (l.zipIdx p).foldl (fun cs (q : Value × Nat) => cs.setIfInBounds q.2 q.1) cs = (cs.toList.take p ++ l).toArray := by
   intro l
   induction l with
   | nil => intro p cs hp; simp at hp; simp [hp, List.take_of_length_le]
   | cons u l ih =>
    intro p cs hp
    simp only [List.zipIdx_cons, List.foldl_cons, List.length_cons] at hp ⊢
    rw [ih (p + 1) _ (by simp; omega)]
    congr 1
    have hlt : p < cs.toList.length := by simp; omega
    rw [Array.toList_setIfInBounds, List.take_add_one, List.take_set, List.getElem?_set_self hlt, List.set_eq_of_length_le (by simp; omega)]
    simp
  have h1 := key v.cells.toList 0 ((Array.range size).map (z.cells[· % z.cells.size]!)) (by simp [hvs])
  simp only [Instr.fill, hsz, Nat.zero_mul, Nat.zero_add, Nat.one_mul, hvs, Array.size_map, Array.size_range, ne_eq, not_true_eq_false, decide_false, Bool.false_or, gt_iff_lt, Nat.lt_irrefl, Bool.false_eq_true, if_false, Option.some.injEq]
  rw [<- Array.foldl_toList, Array.toList_zipIdx]
  simpa using h1
 exact run_buildSlice (P := P) w t e 1 #[(0, v)] v.cells i z ht hi hz (by simp [hsz]; omega) (by simp [hsz]; omega) hfill
def FlatE (f : T -> List Ce) : Prop := ∀ x, ∀ c ∈ f x, ∃ u, ∃ hu : u.oneCell' = true, c = cV u hu
theorem Wk (hf : FlatE f) {S : Bs} : ∀ {cs : List Ce} {vs : List Value}, (∀ c ∈ cs, ∃ u, ∃ hu : u.oneCell' = true, c = cV u hu) -> Br S w cs vs -> ∀ w, Z w [] (Ao cs vs)
 | [], vs, _, _ => fun _ => zN
 | c :: cs, _, hc, ⟨v, r, rfl, h1, h2⟩ => by
  obtain ⟨u, hu, rfl⟩ := hc c (List.mem_cons_self ..)
  obtain rfl : v = u := h1
  exact fun w => zP (pV v hu) (Wk hf (fun c h => hc c (List.mem_cons_of_mem _ h)) h2 w)
theorem Yn {S : Bs} : ∀ {cs : List Ce} {vs : List Value}, Br S w cs vs -> ∀ u ∈ vs, u.oneCell' = true
 | [], _, h, u, hu => by have : _ = [] := h; subst this; cases hu
 | c :: cs, _, ⟨v, r, rfl, h1, h2⟩, u, hu => by
  rcases List.mem_cons.1 hu with rfl | hu
  ·exact c.one h1
  ·exact Yn h2 u hu
theorem Cs.src {S : Bs} {t e : TypeId} {v : Value} (ht : P.underlying t = some (.slice e)) (h : (Ad k f L).rd S w v) : ∃ xs, Src P k t v L.length xs w /\ Br S w (L.flatMap f) xs := by
 obtain ⟨a, cap, rfl, h1, h2, h3⟩ := h
 by_cases hL : L = []
 ·subst hL
  cases a with
  | none => exact ⟨[], Src.ofNil w ht cap, rfl⟩
  | some a => exact ⟨[], Src.ofSlice w ht a _ cap [] (by simp) (fun j u hj => by simp at hj) (fun u hu => by cases hu), rfl⟩
 ·obtain ⟨b, off, xs, rfl, _, hl, hx, hr⟩ := h3 hL
  exact ⟨xs, Src.ofSlice w ht _ _ cap xs hl (fun j u hj => by rw [Addr.add_lit]; exact hx j u hj) (Yn hr), hr⟩
theorem Fx {o : Oper} {K : Value -> World -> Prop} {v : Value} {w' : World} (hr : Runs P n env w o v w') (hk : K v w') : Ex P n env w o K := ⟨v, w', hr, hk⟩
theorem Bjk {K : Value -> World -> Prop} {d : Nat} {x y : Operand} {t e : TypeId} {size bytes : Nat} {z xv : Value} {s : Sv} {M : List T} {S : Bs} (ht : P.underlying t = some (.slice e)) (hs : Sz P e size bytes z) (hx : ev env x = some xv) (hsv : ev env y = some s.v)
  (hsrc : (Ad size f M).rd S w xv) (hfl : FlatE f) (hM : St w0 (oC (Ad size f L) s.v :: m) rs w) (h40 : L.length + M.length <= 1099511627776) (hby : Nat.ble bytes 127 = true)
  (h : ∀ (s' : Sv) w', St w0 (oC (Ad size f (L ++ M)) s'.v :: m) rs w' -> K (s'.v) w') :
  Ex P n env w ⟨some d, .call { callee := .builtin .append, args := #[y, x], argTypes := #[t, t] }, ty, pos, af, none⟩ K := by
 obtain ⟨xs, h1, h2⟩ := Cs.src ht hsrc
 have hby' : bytes <= 127 := by simpa using hby
 obtain ⟨s', w', hr, h3⟩ := St.app (tyy := ty) (own := []) (M := M) ht hs hM h1 rfl (Ob h2).symm (Wk hfl (fun c hc => by
  obtain ⟨a, _, ha⟩ := List.mem_flatMap.1 hc
  exact hfl a c ha) h2 w) (by simp only [maxLen]; omega) (by
  have := Nat.mul_le_mul h40 hby'
  omega)
 refine Fx (v := s'.v) (w' := w') (fun a ha => ?_) (h s' w' h3)
 simp [execOp, resolve, invoke, builtin, ha.ev hsv, ha.ev hx, hr]
theorem Aga {K : Value -> World -> Prop} {d : Nat} {x y : Operand} {t e : TypeId} {size bytes : Nat} {z : Value} {s sx : Sv} {M : List T} (ht : P.underlying t = some (.slice e)) (hs : Sz P e size bytes z) (hx : ev env x = some sx.v) (hsv : ev env y = some s.v)
  (hM : St w0 (oC (Ad size f L) s.v :: oC (Ad size f M) sx.v :: m) rs w) (h40 : L.length + M.length <= 1099511627776) (hby : Nat.ble bytes 127 = true)
  (h : ∀ (s' : Sv) w', St w0 (oC (Ad size f (L ++ M)) s'.v :: m) rs w' -> K (s'.v) w') :
  Ex P n env w ⟨some d, .call { callee := .builtin .append, args := #[y, x], argTypes := #[t, t] }, ty, pos, af, none⟩ K := by
 have hsw := St.unrow (hM.perm (List.Perm.swap ..))
 obtain ⟨xs, hl, hM2⟩ := hsw
 have hrow := hM2.at' (List.mem_cons_self ..)
 have hM3 := hM2.drop
 have hcells : ∀ j u, xs[j]? = some u -> ∃ a, sx.p = some a /\ w.cell? (a.add j) = some u := fun j u hj => by
  obtain ⟨F, _, gl, gr⟩ := hrow
  rcases gr with ⟨e1, hn⟩ | ⟨b, off, cap, cur, e', hd, e1, hb, ⟨hg, _⟩, _, _, _, htk⟩
  ·rw [hn, Nat.zero_mul] at gl
   rw [List.eq_nil_of_length_eq_zero gl] at hj
   simp at hj
  ·obtain ⟨ep, _⟩ : sx.p = some ⟨b, off, none⟩ /\ _ := by simpa [Sv.v] using e1
   rw [<- htk, List.getElem?_take] at hj
   split at hj
   ·rw [List.getElem?_drop, Array.getElem?_toList] at hj
    exact ⟨_, ep, by rw [Addr.add_lit]; simp [World.cell?, hg, hj]⟩
   ·cases hj
 have hrd : ∃ S, Br S w (M.flatMap f) xs := by
  obtain ⟨_, _, F, h2, _⟩ := hM3
  obtain ⟨F1, _, h3, _⟩ := h2.split
  exact ⟨F1, Vo hl h3⟩
 obtain ⟨S, hrd⟩ := hrd
 obtain ⟨F, _, gl, gr⟩ := hrow
 have hn : sx.n = M.length := by
  rcases gr with ⟨e1, hn⟩ | ⟨b, off, cap, cur, e', hd, e1, _⟩
  ·obtain ⟨_, h2, _⟩ : sx.p = none /\ sx.n = 0 /\ sx.c = 0 := by simpa [Sv.v] using e1
   omega
  ·obtain ⟨_, h2, _⟩ : sx.p = some ⟨b, off, none⟩ /\ sx.n = M.length /\ sx.c = cap := by simpa [Sv.v] using e1
   exact h2
 have hsrc : Src P size t sx.v M.length xs w := by
  have e0 : sx.v = .slice sx.p M.length sx.c := by rw [<- hn]; rfl
  cases hp : sx.p with
  | none =>
   have hxs : xs = [] := by
    cases xs with
    | nil => rfl
    | cons u r => obtain ⟨a, ha, _⟩ := hcells 0 u rfl; rw [hp] at ha; cases ha
   subst hxs
   have hz : M.length = 0 := by
    have := hs.2.2
    rcases Nat.mul_eq_zero.1 gl.symm with h | h <;> omega
   rw [e0, hp, hz]
   exact Src.ofNil w ht _
  | some a =>
   rw [e0, hp]
   exact Src.ofSlice w ht a _ _ xs gl (fun j u hj => by obtain ⟨a', ha, hc⟩ := hcells j u hj; rw [hp] at ha; cases ha; exact hc) (Yn hrd)
 have hby' : bytes <= 127 := by simpa using hby
 have hM4 : St w0 (oC (Ad size f L) s.v :: (Ao (M.flatMap f) xs ++ m)) rs w := hM3.perm List.perm_middle
 obtain ⟨s', w', hr, h3⟩ := St.app (tyy := ty) (M := M) ht hs hM4 hsrc rfl hl zI (by simp only [maxLen]; omega) (by
  have := Nat.mul_le_mul h40 hby'
  omega)
 refine Fx (v := s'.v) (w' := w') (fun a ha => ?_) (h s' w' h3)
 simp [execOp, resolve, invoke, builtin, ha.ev hsv, ha.ev hx, hr]
end
end
section
open Go.RowKit
theorem Sep.sub {w : World} {l l' : List As} (hs : List.Sublist l' l) : ∀ {F : Bs}, Sep l F w -> Sep l' F w := by
 induction hs with
 | slnil => exact fun h => h
 | cons a _ ih => exact fun h => ih h.tail
 | cons_cons a _ ih => exact fun h => h.cons_mono fun _ => ih
theorem Apl {T A : Type} [Inhabited T] {k : Nat} {f : T -> List A} (hf : ∀ x, (f x).length = k) : ∀ (L : List T) (i j : Nat) (us : List A) (y : T), i < L.length -> j + us.length <= k -> f y = (f (el L i)).take j ++ us ++ (f (el L i)).drop (j + us.length) ->
  (L.set i y).flatMap f = (L.flatMap f).take (i * k + j) ++ us ++ (L.flatMap f).drop (i * k + j + us.length)
 | [], i, j, _, _, hi, _, _ => by simp at hi
 | x :: L, 0, j, us, y, _, hj, hx => by
  have hx' : f y = (f x).take j ++ us ++ (f x).drop (j + us.length) := hx
  rw [List.set_cons_zero, List.flatMap_cons, List.flatMap_cons, hx', Nat.zero_mul, Nat.zero_add, List.take_append_of_le_length (by rw [hf]; omega), List.drop_append_of_le_length (by rw [hf]; omega)]
  simp [List.append_assoc]
 | x :: L, i + 1, j, us, y, hi, hj, hx => by
  rw [List.set_cons_succ, List.flatMap_cons, List.flatMap_cons, Apl hf L i j us y (by simpa using hi) hj hx]
  rw [show (i + 1) * k + j = k + (i * k + j) by rw [Nat.add_mul]; omega]
  rw [List.take_append, List.drop_append, hf, List.take_of_length_le (l := f x) (by rw [hf]; omega), @List.drop_eq_nil_of_le _ (f x) _ (by rw [hf]; omega)]
  rw [Nat.add_sub_cancel_left, show k + (i * k + j) + us.length - k = i * k + j + us.length by omega]
  simp [List.append_assoc]
section
variable {w0 : Base} {w w' : World} {m l l' own : List As} {rs : List Rd} {c : Ce} {v : Value} {S : Bs}
variable {T : Type} {k : Nat} {f : T -> List Ce} {L : List T}
theorem St.upds [Inhabited T] {i j : Nat} {y : T} {cs : List Ce} {us : List Value} {s : Sv} (hf : ∀ x, (f x).length = k) (hi : i < L.length) (hl : cs.length = us.length) (hj : j + us.length <= k) (hy : f y = (f (el L i)).take j ++ cs ++ (f (el L i)).drop (j + us.length))
  (hz : ∀ w, Z w own (Ao cs us)) (h : St w0 (oC (Ad k f L) s.v :: (own ++ m)) rs w) :
  ∃ (b o : Nat) (cur : Array Value) (e : TypeId) (hd : Nat × Nat), s.p = some ⟨b, o, none⟩ /\ (w.heap[b]? = some (.cells cur e hd) /\ Wr hd cur.size) /\ o + i * k + j + us.length <= cur.size /\ St w0 (oC (Ad k f (L.set i y)) s.v :: m) rs (w.setCells b (o + i * k + j) us) := by
 obtain ⟨xs, h1, h2⟩ := h.unrow
 have hik : i * k + k <= L.length * k := by rw [<- Nat.succ_mul]; exact Nat.mul_le_mul_right k hi
 have hcs : (L.flatMap f).length = L.length * k := Kd hf L
 have hzl : Ao ((L.set i y).flatMap f) (xs.take (i * k + j) ++ us ++ xs.drop (i * k + j + us.length)) = (Ao (L.flatMap f) xs).take (i * k + j) ++ Ao cs us ++ (Ao (L.flatMap f) xs).drop (i * k + j + us.length) := by
  rw [Apl hf L i j cs y hi (by omega) (by rw [hl]; exact hy), hl]
  rw [J3 (by rw [List.length_append, List.length_append, List.length_take, List.length_take]; omega), J3 (by rw [List.length_take, List.length_take]; omega), Aa2, Aa1]
 have h3 : St w0 (Bf k s.v L.length xs :: (Ao ((L.set i y).flatMap f) (xs.take (i * k + j) ++ us ++ xs.drop (i * k + j + us.length)) ++ m)) rs w := by
  refine (St.iso (l := Ao (L.flatMap f) xs ++ own) (l' := Ao ((L.set i y).flatMap f) (xs.take (i * k + j) ++ us ++ xs.drop (i * k + j + us.length))) (m := Bf k s.v L.length xs :: m) (h2.perm ?_) fun F hF => ?_).perm ?_
  ·rw [<- List.append_assoc]; exact List.perm_middle.symm
  ·rw [hzl]
   obtain ⟨F1, F2, g1, g2, g3, g4, g5⟩ := hF.split
   have g1' : Sep ((Ao (L.flatMap f) xs).take (i * k + j) ++ (Ao (L.flatMap f) xs).drop (i * k + j + us.length)) F1 w := Sep.sub (by
    conv => rhs; rw [<- List.take_append_drop (i * k + j) (Ao (L.flatMap f) xs)]
    refine List.Sublist.append_left ?_ _
    rw [<- List.drop_drop]
    exact List.drop_sublist _ _) g1
   have g6 := (Sep.join g1' (hz w F2 g2) g3).up (F' := F) (fun b hb => by
    rcases hb with hb | hb
    ·exact g4 b hb
    ·exact g5 b hb) hF.lt
   refine g6.perm ?_
   rw [List.append_assoc, List.append_assoc]
   exact List.Perm.append_left _ List.perm_append_comm
  ·exact List.perm_middle
 obtain ⟨F0, g0, gl, gr⟩ := h3.at' (List.mem_cons_self ..)
 rcases gr with ⟨e1, hn⟩ | ⟨b, o, cap, cur, e, hd, e1, hb, ⟨hg, hwr⟩, hnc, hcm, hsz, htk⟩
 ·omega
 ·obtain ⟨ep, en, ec⟩ : s.p = some ⟨b, o, none⟩ /\ s.n = L.length /\ s.c = cap := by simpa [Sv.v] using e1
  have hnk : L.length * k <= cap * k := Nat.mul_le_mul_right _ hnc
  have hfit : o + i * k + j + us.length <= cur.size := by omega
  refine ⟨b, o, cur, e, hd, ep, ⟨hg, hwr⟩, hfit, St.rerow (xs := xs.take (i * k + j) ++ us ++ xs.drop (i * k + j + us.length)) ?_ ?_⟩
  ·rw [Kd hf, List.length_set, List.length_append, List.length_append, List.length_take, List.length_drop]; omega
  ·rw [List.length_set]
   refine h3.updHead fun F ⟨q0, ql, qr⟩ => ?_
   rcases qr with ⟨q1, _⟩ | ⟨b2, o2, cap2, cur2, e2, hd2, q1, qb, ⟨qg, qw⟩, _, _, _, qtk⟩
   ·rw [e1] at q1; cases q1
   ·obtain ⟨⟨rfl, rfl⟩, rfl⟩ : (b = b2 /\ o = o2) /\ cap = cap2 := by rw [e1] at q1; simpa using q1
    rw [hg] at qg
    obtain ⟨rfl, rfl, rfl⟩ : cur = cur2 /\ e = e2 /\ hd = hd2 := by simpa using qg
    have hrel := Tu (X := F) (b := b) us (o + i * k + j) w fun x h1 h2 => by
     have := qb (x - o) (by omega)
     rwa [show o + (x - o) = x by omega] at this
    refine ⟨F, ⟨fun b hb => Nat.lt_of_lt_of_le (q0 b hb) hrel.size, by rw [List.length_append, List.length_append, List.length_take, List.length_drop]; omega, .inr ⟨b, o, cap, _, e, hd, e1, qb, ⟨Qu us _ cur w hg, ?_⟩, hnc, hcm, ?_, ?_⟩⟩, hrel, fun _ hb => .inl hb⟩
    ·rw [Ji _ _ _ (by rw [Array.length_toList]; exact hfit), show (cur.toList.take (o + i * k + j) ++ us ++ cur.toList.drop (o + i * k + j + us.length)).toArray.size = cur.size by simp only [List.size_toArray, List.length_append, List.length_take, List.length_drop, Array.length_toList]; omega]
     exact hwr
    ·rw [Ji _ _ _ (by rw [Array.length_toList]; exact hfit)]
     simp only [List.size_toArray, List.length_append, List.length_take, List.length_drop, Array.length_toList]; omega
    ·rw [Ji _ _ _ (by rw [Array.length_toList]; exact hfit), <- htk]
     have hcl : cur.toList.length = cur.size := Array.length_toList
     rw [List.take_take, List.drop_take, List.drop_drop, show min (i * k + j) (L.length * k) = i * k + j by omega]
     rw [List.append_assoc, List.drop_append_of_le_length (by rw [List.length_take]; omega), List.drop_take, show o + i * k + j - o = i * k + j by omega]
     rw [<- List.append_assoc, List.take_append, List.length_append, List.length_take, List.length_drop]
     rw [List.take_of_length_le (by rw [List.length_append, List.length_take, List.length_drop]; omega)]
     congr 1
     rw [show o + i * k + j + us.length = o + (i * k + j + us.length) by omega]
     congr 1
     omega
end
section
variable {P : Program} {n : Nat} {ops : Array Oper} {Q : Post} {env : Env} {w w' : World} {w0 : Base} {rest : List Oper} {ty : TypeId} {pos : String} {af : Array Edge} {m own : List As} {rs : List Rd}
variable {T : Type} {k : Nat} {f : T -> List Ce} {L : List T}
theorem Aet {t : TypeId} {size bytes : Nat} {z u : Value} {b o : Nat} {cur : Array Value} {e : TypeId} (hs : Sz P t size bytes z) (hu : u.cells.size = size) (hone : u.cells.toList.all (·.oneCell') = true) {hd : Nat × Nat} (hg : w.heap[b]? = some (.cells cur e hd)) (hw : Wr hd cur.size) (hfit : o + u.cells.toList.length <= cur.size) :
  (storeVar t ⟨b, o, none⟩ u).run P w = .ok () (w.setCells b o u.cells.toList) := by
 have h1 := run_storeCells_cells (P := P) b o u.cells.toList 0 w (fun j hj => by simp only [World.cell?, hg]; simp; rw [Array.length_toList] at hj hfit; omega) (fun j hj => frz hg hw (by rw [Array.length_toList] at hfit; simp only [Array.length_toList] at hj; omega)) (fun v hv => List.all_eq_true.1 hone v hv)
 simp only [Nat.add_zero] at h1
 simp [storeVar, hs.run, hu, h1]
theorem St.stE [Inhabited T] {t : TypeId} {x y : Operand} {s : Sv} {u : Value} {size bytes : Nat} {z : Value} {i j : Nat} (a : T) (cs : List Ce) (hs : Sz P t size bytes z) (hf : ∀ x, (f x).length = k) (hx : ev env x = some (.pointer (some (Bq s.v (i * k + j))))) (hy : ev env y = some u) (hi : i < L.length)
  (hu : u.cells.size = size) (hl : cs.length = u.cells.toList.length) (hj : Nat.ble (j + u.cells.toList.length) k = true) (hone : u.cells.toList.all (·.oneCell') = true) (ha : f a = (f (el L i)).take j ++ cs ++ (f (el L i)).drop (j + u.cells.toList.length)) (hz : ∀ w, Z w own (Ao cs u.cells.toList))
  (hM : St w0 (oC (Ad k f L) s.v :: (own ++ m)) rs w) : ∃ w', RunsU P n env w ⟨none, .store t x y, ty, pos, af, none⟩ w' /\ St w0 (oC (Ad k f (L.set i a)) s.v :: m) rs w' := by
 obtain ⟨b, o, cur, e, hd, ep, ⟨hg, hwr⟩, hfit, h3⟩ := hM.upds hf hi hl (by simpa using hj) ha hz
 refine ⟨w.setCells b (o + i * k + j) u.cells.toList, fun a ha => ?_, h3⟩
 have hx' := ha.ev hx
 have e1 : s.v = .slice (some ⟨b, o, none⟩) s.n s.c := by rw [<- ep]; rfl
 rw [e1] at hx'
 simp only [Bq, <- Nat.add_assoc] at hx'
 have h5 := Aet (P := P) (t := t) hs hu hone hg hwr hfit
 simp [execOp, hx', ha.ev hy, Instr.storeAt, Instr.sureAddr, h5]
theorem Vr {b j : Nat} {cs : Array Value} {e : TypeId} {v : Value} (hM : St w0 m rs w) (hm : Aw b cs e ∈ m) (hc : cs[j]? = some v) : w.cell? ⟨b, j, none⟩ = some v := by
 obtain ⟨F, _, _, hg⟩ := hM.at' hm
 rw [cell_of_row w b j cs e (0, 0) hg]; exact hc
theorem Bc5 {d : Option Tmp} {g : Option (Nat × Bool)} {x : Operand} {t : TypeId} {b j : Nat} {cs : Array Value} {e : TypeId} {v : Value} {td : TypeDesc} (ht : P.underlying t = some td) (hn : Qi td = true) (hx : ev env x = some (.pointer (some ⟨b, j, none⟩)))
  (hM : St w0 m rs w) (hm : Aw b cs e ∈ m) (hc : cs[j]? = some v) : Runs P n env w ⟨d, .load t x, ty, pos, af, g⟩ v w := Atq ht hn hx (Vr hM hm hc)
theorem Bc6 {d : Option Tmp} {g : Option (Nat × Bool)} {x : Operand} {t : TypeId} {b o : Nat} {fs : Array Field} {size bytes : Nat} {z : Value} {us : List Value} {cs : Array Value} {e : TypeId} (ht : P.underlying t = some (.struct fs)) (hs : Sz P t size bytes z) (hx : ev env x = some (.pointer (some ⟨b, o, none⟩)))
  (hl : us.length = size) (hM : St w0 m rs w) (hm : Aw b cs e ∈ m) (hc : (cs.toList.drop o).take size = us) : Runs P n env w ⟨d, .load t x, ty, pos, af, g⟩ (.agg us.toArray) w :=
 Atr ht hs hx hl fun j u hj => by
  rw [Addr.add_lit]
  refine Vr hM hm ?_
  rw [<- hc, List.getElem?_take] at hj
  split at hj
  ·rw [List.getElem?_drop, Array.getElem?_toList] at hj; exact hj
  ·cases hj
theorem Awb {K : Value -> World -> Prop} {d : Nat} {e : TypeId} {size bytes : Nat} {z : Value} (hs : Sz P e size bytes z) (hM : St w0 m rs w)
  (h : ∀ b w', Rel w w' -> St w0 (Aw b z.cells e :: m) rs w' -> K (.pointer (some ⟨b, 0, none⟩)) w') : Ex P n env w ⟨some d, .alloc e, ty, pos, af, none⟩ K :=
 Fx (w' := w.alloc (.cells z.cells e)) (fun a ha => by
  simp [execOp, Instr.alloc, hs.zero, newVar, newRow]) (h _ _ (Rel.alloc w _) (hM.alloc _ _))
theorem Bjn {K : Value -> World -> Prop} {d : Nat} {e : TypeId} {x : Operand} {v : Value} (hx : ev env x = some v) (hM : St w0 m rs w)
  (h : ∀ b w', Rel w w' -> St w0 (Aw b v.cells e :: m) rs w' -> K (.pointer (some ⟨b, 0, none⟩)) w') : Ex P n env w ⟨some d, .box e x, ty, pos, af, none⟩ K :=
 Fx (w' := w.alloc (.cells v.cells e)) (fun a ha => by
  simp [execOp, ha.ev hx, Instr.box, newVar, newRow]) (h _ _ (Rel.alloc w _) (hM.alloc _ _))
theorem St.stB {t : TypeId} {x y : Operand} {b j : Nat} {cs cs' : Array Value} {e : TypeId} {u : Value} {size bytes : Nat} {z : Value} (hs : Sz P t size bytes z) (hx : ev env x = some (.pointer (some ⟨b, j, none⟩))) (hy : ev env y = some u) (hu : u.cells.size = size) (hone : u.cells.toList.all (·.oneCell') = true)
  (hj : Nat.ble (j + u.cells.toList.length) cs.size = true) (hc : cs'.toList = cs.toList.take j ++ u.cells.toList ++ cs.toList.drop (j + u.cells.toList.length)) (hM : St w0 (Aw b cs e :: m) rs w) : ∃ w', RunsU P n env w ⟨none, .store t x y, ty, pos, af, none⟩ w' /\ St w0 (Aw b cs' e :: m) rs w' := by
 obtain ⟨_, _, _, hg⟩ := hM.at' (List.mem_cons_self ..)
 have hj' : j + u.cells.toList.length <= cs.size := by simpa using hj
 have h5 := Aet (P := P) (t := t) hs hu hone hg (wr0 _) hj'
 refine ⟨w.setCells b j u.cells.toList, fun a ha => by simp [execOp, ha.ev hx, ha.ev hy, Instr.storeAt, Instr.sureAddr, h5], hM.updHead fun F ⟨q0, qb, _⟩ => ?_⟩
 have hrel := Tu (X := F) (b := b) u.cells.toList j w fun x h1 h2 => qb x (by omega)
 have hcs : cs'.size = cs.size := by
  rw [<- Array.length_toList, hc]
  simp only [List.length_append, List.length_take, List.length_drop, Array.length_toList] at hj' ⊢
  omega
 refine ⟨F, ⟨fun b hb => Nat.lt_of_lt_of_le (q0 b hb) hrel.size, fun x hx => qb x (by omega), ?_⟩, hrel, fun _ hb => .inl hb⟩
 rw [Qu _ _ _ _ hg, Ji _ _ _ (by rw [Array.length_toList]; exact hj'), <- hc]
theorem Azv {c0 : List Ce} {zs : List Value} (hl : c0.length = zs.length) (hz : ∀ w, Z w [] (Ao c0 zs)) : ∀ (n : Nat) (w : World), Z w [] (Ao ((List.replicate n c0).flatten) ((List.replicate n zs).flatten))
 | 0, _ => zN
 | n + 1, w => fun F hF => by
  rw [List.replicate_succ, List.flatten_cons, List.replicate_succ, List.flatten_cons, J3 hl]
  have h1 := hz w (fun _ => False) (fun _ h => h.elim)
  have h2 := Azv hl hz n w F hF
  exact (Sep.join h1 h2 (fun _ h => h.elim)).up (fun b hb => by
   rcases hb with hb | hb
   ·exact hb.elim
   ·exact hb) h2.lt
theorem Bkx {size : Nat} (cs : List Value) (hc : cs.length = size) (k : Nat) : ((Array.range (k * size)).map fun j => (cs.toArray[j % size]?).getD default) = ((List.replicate k cs).flatten).toArray := by
 apply Array.ext'
 simp only [Array.toList_map, Array.toList_range]
 induction k with
 | zero => simp
 | succ k ih =>
  rw [List.replicate_succ', List.flatten_append, Nat.add_mul, Nat.one_mul, List.range_add, List.map_append, ih]
  congr 1
  simp only [List.flatten_cons, List.flatten_nil, List.append_nil, List.map_map]
  apply List.ext_getElem
  ·simp [hc]
  ·intro j h1 h2
   have hj : j < size := by simpa using h1
   have h3 : (k * size + j) % size = j := by rw [Nat.add_comm, Nat.add_mul_mod_self_right, Nat.mod_eq_of_lt hj]
   simp [h3, List.getElem?_eq_getElem h2]
theorem St.newRow (hM : St w0 (own ++ m) rs w) {us : List Value} {len : Nat} (e : TypeId) (hf : ∀ x, (f x).length = k) (hL : L.length = len) (hl : us.length = len * k) (hz : ∀ w, Z w own (Ao (L.flatMap f) us)) (hm : len <= maxLen) :
  St w0 (oC (Ad k f L) (Sv.v ⟨some ⟨w.heap.size, 0, none⟩, len, len⟩) :: m) rs (w.alloc (.cells us.toArray e)) := by
 have h1 := hM.allocRow (k := k) (n := len) (cap := len) us [] us.toArray e (by simp) hl (Nat.le_refl _) hm (by simpa using hl)
 refine St.rerow (xs := us) (by rw [Kd hf, hL, hl]) ?_
 rw [hL]
 exact (St.iso (l := own) (l' := Ao (L.flatMap f) us) (m := Bf k _ len us :: m) (h1.perm List.perm_middle.symm) (hz _)).perm List.perm_middle
theorem Bjr {K : Value -> World -> Prop} {d : Nat} {x : Operand} {t e : TypeId} {size bytes : Nat} {z : Value} {k : Nat} (y : T) (ht : P.underlying t = some (.slice e)) (hs : Sz P e size bytes z) (hf : ∀ x, (f x).length = size) (hz : ∀ w, Z w [] (Ao (f y) z.cells.toList)) (hx : ev env x = some (.int .i64 (k : Int)))
  (hk : k <= 1099511627776) (hby : Nat.ble bytes 255 = true) (hM : St w0 m rs w)
  (h : ∀ (s : Sv) w', Rel w w' -> St w0 (oC (Ad size f (List.replicate k y)) s.v :: m) rs w' -> K s.v w') : Ex P n env w ⟨some d, .makeSlice t x x, ty, pos, af, none⟩ K := by
 obtain ⟨i, hi, hzz, hsz, hbt⟩ := hs.info
 have hby' : bytes <= 255 := by simpa using hby
 have hb : (bytes : Int) * (k : Int) <= 281474976710656 := by
  have := Nat.mul_le_mul hby' hk
  omega
 have hw : IntKind.i64.wrap (k : Int) = (k : Int) := i64_in ⟨by omega, by omega⟩
 have hfl : z.cells.toList.length = size := by rw [Array.length_toList]; exact hs.2.1
 have hrow := Bkx z.cells.toList hfl k
 have hpos := hs.2.2
 have hrun : (Instr.makeSlice t (.int .i64 (k : Int)) (.int .i64 (k : Int))).run P w = .ok (.slice (some ⟨w.heap.size, 0, none⟩) k k) (w.alloc (.cells ((List.replicate k z.cells.toList).flatten).toArray e)) := by
  by_cases hk0 : k = 0
  ·subst hk0
   have hw0 : IntKind.i64.wrap 0 = 0 := i64_in ⟨by omega, by omega⟩
   simp [Instr.makeSlice, run_underlying ht, asInt, asIntOf, typeInfo, hi, hw0, hs.run, Go.newRow]
   rw [show (Array.range 0).map (fun _ => (default : Value)) = #[] from by simp]
  ·have hz2 : z.cells = z.cells.toList.toArray := by simp
   have hzs : z.cells.toList.toArray.size = size := by simpa using hfl
   simp only [Instr.makeSlice, run_underlying ht, asInt, asIntOf, typeInfo, hi, hw, hbt, Sem.run_bind, Sem.run_pure, Result.andThen_ok, run_program]
   simp only [Sem.run_ite]
   generalize hzc : z.cells.toList = zl at *
   simp [hfl, Go.newRow, hs.zero, hs.run, hz2]
   rw [if_neg (by omega)]
   have h7 := hrow
   simp only [List.getElem?_toArray] at h7
   rw [h7, if_neg (by rw [Nat.mul_eq_zero]; omega)]
 refine Fx (v := Sv.v ⟨some ⟨w.heap.size, 0, none⟩, k, k⟩) (w' := w.alloc (.cells ((List.replicate k z.cells.toList).flatten).toArray e)) (fun a ha => by simp [execOp, ha.ev hx, hrun, Sv.v]) (h _ _ (Rel.alloc w _) ?_)
 refine St.newRow (own := []) hM e hf (by simp) ?_ (fun w => ?_) (by simp only [maxLen]; omega)
 ·rw [List.length_flatten]; simp [hs.2.1]
 ·have hfm : (List.replicate k y).flatMap f = (List.replicate k (f y)).flatten := by
   rw [List.flatMap_def, List.map_replicate]
  rw [hfm]
  exact Azv (by rw [hf, hfl]) hz k w
theorem Bjo {K : Value -> World -> Prop} {d : Nat} {t e : TypeId} {size bytes : Nat} {z : Value} (ht : P.underlying t = some (.slice e)) (hs : Sz P e size bytes z) (hf : ∀ x, (f x).length = size) (hM : St w0 m rs w)
  (h : ∀ (s : Sv) w', Rel w w' -> St w0 (oC (Ad size f ([] : List T)) s.v :: m) rs w' -> K s.v w') : Ex P n env w ⟨some d, .buildSlice t 0 #[], ty, pos, af, none⟩ K := by
 refine Fx (v := Sv.v ⟨some ⟨w.heap.size, 0, none⟩, 0, 0⟩) (w' := w.alloc (.cells #[] e)) (fun a ha => ?_) (h _ _ (Rel.alloc w _) ?_)
 ·simp [execOp, Instr.buildSlice, run_underlying ht, hs.run, Instr.fill, Go.newRow]
  rw [show (Array.range 0).map (fun _ => (default : Value)) = #[] from by simp]
  exact ⟨rfl, rfl⟩
 ·exact St.newRow (own := []) (us := []) hM e hf rfl (by simp) (fun _ => zN) (by simp [maxLen])
def evP (env : Env) : List (Nat × Operand) -> Option (List (Nat × Value))
 | [] => some []
 | (i, x) :: r => match ev env x, evP env r with
  | some v, some vs => some ((i, v) :: vs)
  | _, _ => none
theorem Has.evP {n : Nat} {a : Act} {env : Env} (h : Has n a env) : ∀ {l : List (Nat × Operand)} {vs : List (Nat × Value)}, Go.Proofs.YtipinmfmejccdaaGreat.evP env l = some vs -> l.map (fun p => (p.1, a.eval p.2)) = vs
 | [], vs, hv => by simp [Go.Proofs.YtipinmfmejccdaaGreat.evP] at hv; simp [hv]
 | (i, x) :: r, vs, hv => by
  unfold Go.Proofs.YtipinmfmejccdaaGreat.evP at hv
  split at hv
  ·rename_i v vs' h1 h2
   simp at hv
   subst hv
   simp [h.ev h1, h.evP h2]
  ·cases hv
theorem Bcu {d : Option Tmp} {g : Option (Nat × Bool)} {t : TypeId} {parts : List (Nat × Operand)} {vs : List (Nat × Value)} {cells : Array Value} (hp : evP env parts = some vs) (h : P.built t vs = some cells) :
  Runs P n env w ⟨d, .build t parts.toArray, ty, pos, af, g⟩ (.agg cells) w := fun a ha => by
 have h1 := ha.evP hp
 have h2 : (Instr.build t (parts.toArray.map fun p => (p.1, a.eval p.2))).run P w = .ok (.agg cells) w := run_build w t _ cells (by rw [Array.toList_map, <- h, <- h1])
 simp only [execOp, Sem.run_bind, h2, Result.andThen_ok, Sem.run_pure]
theorem Bjp {K : Value -> World -> Prop} {g : Option (Nat × Bool)} {d : Nat} {t e : TypeId} {size bytes : Nat} {z : Value} {parts : List (Nat × Operand)} {vs : List (Nat × Value)} (l : List T) (us : List Value) (len : Nat) (ht : P.underlying t = some (.slice e)) (hs : Sz P e size bytes z) (hf : ∀ x, (f x).length = size)
  (hp : evP env parts = some vs) (hl : l.length = len) (hul : us.length = len * size) (hpos : Nat.blt 0 len = true) (hsm : Nat.ble (len * size) 1000 = true)
  (hfill : Instr.fill (fun i => some (i * size, size)) ((Array.range (len * size)).map (z.cells[· % z.cells.size]!)) vs = some us.toArray) (hz : ∀ w, Z w own (Ao (l.flatMap f) us))
  (hM : St w0 (own ++ m) rs w) (h : ∀ (s : Sv) w', Rel w w' -> St w0 (oC (Ad size f l) s.v :: m) rs w' -> K s.v w') :
  Ex P n env w ⟨some d, .buildSlice t len parts.toArray, ty, pos, af, g⟩ K := by
 obtain ⟨i, hi, hzz, hsz, hbt⟩ := hs.info
 have hsm' := Nat.le_of_ble_eq_true hsm
 have hpos' : 0 < len := by simpa using hpos
 have hs0 := hs.2.2
 have hne : ¬ len * size = 0 := by
  intro e0
  rcases Nat.mul_eq_zero.1 e0 with h | h <;> omega
 refine Fx (v := Sv.v ⟨some ⟨w.heap.size, 0, none⟩, len, len⟩) (w' := w.alloc (.cells us.toArray e)) (fun a ha => ?_) (h _ _ (Rel.alloc w _) (St.newRow hM e hf hl hul hz ?_))
 ·have h1 := ha.evP hp
  have h2 : (parts.toArray.map fun (i, x) => (i, a.eval x)).toList = vs := by rw [Array.toList_map, <- h1]
  have h3 := run_buildSlice (P := P) w t e len (parts.toArray.map fun p => (p.1, a.eval p.2)) us.toArray i z ht hi hzz (by rw [hsz]; omega) (by rw [hsz]; exact hne) (by rw [hsz, h2]; exact hfill)
  simp only [execOp, Sem.run_bind, h3, Result.andThen_ok, Sem.run_pure]
  rfl
 ·simp only [maxLen]
  have : len <= len * size := Nat.le_mul_of_pos_right _ hs0
  omega
end
end
section
open Go.RowKit
inductive Lr (σ ρ : Type) where
 | go (s : σ)
 | out (r : ρ)
def xg (p : Prop) [Decidable p] {α : Type} (x : Option α) : Option α := if p then x else none
def Lr.on {σ ρ α : Type} (r : Lr σ ρ) (f : σ -> α) (g : ρ -> α) : α := match r with
 | .go s => f s
 | .out r => g r
def Fh {σ ρ : Type} (f : σ -> Option (Lr σ ρ)) : Nat -> σ -> Option ρ
 | 0, _ => none
 | n + 1, s => (f s).bind fun r => r.on (Fh f n) some
open Classical in
noncomputable def Bj {σ ρ : Type} (f : σ -> Option (Lr σ ρ)) (s : σ) : Option ρ :=
 if h : ∃ n r, Fh f n s = some r then some h.choose_spec.choose else none
theorem Ac5 {σ ρ : Type} {f : σ -> Option (Lr σ ρ)} : ∀ {n m : Nat} {s : σ} {r : ρ}, Fh f n s = some r -> n <= m -> Fh f m s = some r
 | 0, _, _, _, h, _ => by cases h
 | n + 1, 0, _, _, _, hm => by omega
 | n + 1, m + 1, s, r, h, hm => by
  unfold Fh at h ⊢
  cases hf : f s with
  | none => rw [hf] at h; cases h
  | some x =>
   rw [hf] at h
   cases x with
   | go s' => exact Ac5 (n := n) h (by omega)
   | out r' => exact h
theorem Lu {σ ρ : Type} {f : σ -> Option (Lr σ ρ)} {s : σ} {r : ρ} : Bj f s = some r ↔ ∃ n, Fh f n s = some r := by
 unfold Bj
 constructor
 ·intro h
  split at h
  ·rename_i hx
   simp only [Option.some.injEq] at h
   subst h
   exact ⟨_, hx.choose_spec.choose_spec⟩
  ·cases h
 ·rintro ⟨n, hn⟩
  have hx : ∃ n r, Fh f n s = some r := ⟨n, r, hn⟩
  rw [dif_pos hx]
  have h1 := hx.choose_spec.choose_spec
  have h2 := Ac5 h1 (Nat.le_max_left hx.choose n)
  have h3 := Ac5 hn (Nat.le_max_right hx.choose n)
  rw [h2] at h3
  exact h3
theorem Arq {σ ρ : Type} (f : σ -> Option (Lr σ ρ)) (s : σ) : Bj f s = (f s).bind fun r => r.on (Bj f) some := by
 cases hf : f s with
 | none =>
  cases h : Bj f s with
  | none => rfl
  | some r =>
   obtain ⟨n, hn⟩ := Lu.1 h
   cases n with
   | zero => cases hn
   | succ n => unfold Fh at hn; rw [hf] at hn; cases hn
 | some x =>
  cases x with
  | out r =>
   show Bj f s = some r
   exact Lu.2 ⟨1, by unfold Fh; rw [hf]; rfl⟩
  | go s' =>
   show Bj f s = Bj f s'
   cases h : Bj f s' with
   | some r =>
    obtain ⟨n, hn⟩ := Lu.1 h
    exact Lu.2 ⟨n + 1, by unfold Fh; rw [hf]; exact hn⟩
   | none =>
    cases h' : Bj f s with
    | none => rfl
    | some r =>
     obtain ⟨n, hn⟩ := Lu.1 h'
     cases n with
     | zero => cases hn
     | succ n =>
      unfold Fh at hn
      rw [hf] at hn
      rw [Lu.2 ⟨n, hn⟩] at h
      cases h
def Aq {σ ρ : Type} (f : Nat -> σ -> Option (Lr σ ρ)) (e : σ -> ρ) : Nat -> Nat -> σ -> Option ρ
 | 0, _, s => some (e s)
 | m + 1, k, s => (f k s).bind fun r => r.on (Aq f e m (k + 1)) some
section
variable {α β : Type}
theorem Af {x : Option α} {f : α -> Option β} {r : β} (h : x.bind f = some r) : ∃ y, x = some y /\ f y = some r := Option.bind_eq_some_iff.1 h
theorem Bp {p : Prop} [Decidable p] {x : Option α} {r : α} (h : xg p x = some r) : p /\ x = some r := by
 unfold xg at h
 split at h
 ·exact ⟨by assumption, h⟩
 ·cases h
theorem Ars {σ ρ : Type} {f : σ -> Option (Lr σ ρ)} {s : σ} {r : ρ} (h : Bj f s = some r) : ∃ n, Fh f n s = some r := Lu.1 h
theorem A97 {σ ρ : Type} {f : σ -> Option (Lr σ ρ)} {n : Nat} {s : σ} {r : ρ} (h : Fh f n s = some r) : ∃ m z, n = m + 1 /\ f s = some z /\ z.on (Fh f m) some = some r := by
 cases n with
 | zero => cases h
 | succ m =>
  obtain ⟨z, h1, h2⟩ := Af (x := f s) h
  exact ⟨m, z, rfl, h1, h2⟩
end
@[reducible] def un {α β : Type} {γ : Sort _} (f : α -> β -> γ) : α × β -> γ
 | (a, b) => f a b
def Ac (x : Int) : Prop := -9223372036854775808 <= x /\ x <= 9223372036854775807
def Acy : Int -> Bool
 | .ofNat n => Nat.ble n 9223372036854775807
 | .negSucc n => Nat.ble n 9223372036854775807
theorem A9t : ∀ x : Int, Acy x = true ↔ Ac x
 | .ofNat n => by
  have : Acy (.ofNat n) = Nat.ble n 9223372036854775807 := rfl
  rw [this, Nat.ble_eq]
  show _ ↔ (-9223372036854775808 : Int) <= (n : Int) /\ (n : Int) <= 9223372036854775807
  omega
 | .negSucc n => by
  have : Acy (.negSucc n) = Nat.ble n 9223372036854775807 := rfl
  rw [this, Nat.ble_eq]
  unfold Ac
  omega
instance (x : Int) : Decidable (Ac x) := decidable_of_iff _ (A9t x)
section
variable {P : Program} {w : World} {w0 : Base} {l m : List As} {rs : List Rd} {f : FuncId} {vs : List Value}
theorem St.back {F F1 F2 S : Bs} {w' : World} {l' : List As} {rs1 : List Rd} (h1 : RelX w0.X w0.w w) (hb : ∀ b, w0.S b -> b.1 < w0.w.heap.size /\ ¬ w0.X b) (g2 : Sep m F2 w) (g3 : ∀ b, F1 b -> ¬ F2 b) (g4 : ∀ b, F1 b -> F b) (g5 : ∀ b, F2 b -> F b)
  (h3 : ∀ b, F b -> w0.w.heap.size <= b.1 \/ w0.X b) (h4 : ∀ r ∈ rs, r.ok (fun b => (w0.S b \/ w0.X b \/ w0.w.heap.size <= b.1) /\ b.1 < w.heap.size /\ ¬ F b) w) (G : Gives F1 S w l' rs1 w') (hS : rs1 = [] \/ ∀ b, S b -> (w0.S b \/ w0.X b \/ w0.w.heap.size <= b.1) /\ ¬ F2 b) : St w0 (l' ++ m) (rs1 ++ rs) w' := by
 obtain ⟨k2, F', k1, k3, k4⟩ := G
 have g2' : Sep m F2 w' := g2.loc (k2.lc fun b hb h' => g3 b h' hb)
 have hd : ∀ b, F' b -> ¬ F2 b := fun b hb h' => by
  rcases k3 b hb with h'' | h''
  ·have := g2.lt b h'; omega
  ·exact g3 b h'' h'
 refine ⟨h1.step k2 fun b hb => h3 b (g4 b hb), hb, _, Sep.join k1 g2' hd, fun b hb' => ?_, fun r hr => ?_⟩
 ·rcases hb' with hb' | hb'
  ·rcases k3 b hb' with h' | h'
   ·have := h1.size; exact .inl (by omega)
   ·exact h3 b (g4 b h')
  ·exact h3 b (g5 b hb')
 ·rcases List.mem_append.1 hr with hr | hr
  ·rcases hS with rfl | hS
   ·cases hr
   ·refine r.mono (fun b hb' => ⟨?_, hb'.2.1, fun h' => ?_⟩) (Lc.refl _ _) (k4 r hr)
    ·rcases hb'.1 with h' | h' | h'
     ·exact (hS b h').1
     ·exact .inr ((h3 b (g4 b h')).elim .inr .inl)
     ·have := h1.size; exact .inr (.inr (by omega))
    ·rcases h' with h' | h'
     ·exact hb'.2.2 h'
     ·rcases hb'.1 with h'' | h'' | h''
      ·exact (hS b h'').2 h'
      ·exact g3 b h'' h'
      ·have := g2.lt b h'; omega
  ·refine r.mono (fun b hb' => ⟨hb'.1, Nat.lt_of_lt_of_le hb'.2.1 k2.size, fun h' => ?_⟩) (k2.lc fun b hb' e => hb'.2.2 (g4 b e)) (h4 r hr)
   rcases h' with h' | h'
   ·rcases k3 b h' with h'' | h''
    ·have := hb'.2.1; omega
    ·exact hb'.2.2 (g4 b h'')
   ·exact hb'.2.2 (g5 b h')
theorem St.callO {Y : Type} {val : Y -> Value} {l' : Y -> List As} (h : St w0 (l ++ m) rs w)
  (hc : ∀ X S : Bs, Sep l X w -> (∀ b, S b -> b.1 < w.heap.size /\ ¬ X b) -> (∀ r ∈ rs, r.ok S w) -> (∀ a ∈ m, ∃ F, (∀ b, F b -> S b) /\ a.ok F w) -> Ret P f vs w (fun u w' => ∃ y, u = val y /\ Gives X S w (l' y) [] w')) :
  Ret P f vs w (fun u w' => ∃ y, u = val y /\ St w0 (l' y ++ m) rs w') := by
 obtain ⟨h1, hb, F, h2, h3, h4⟩ := h
 obtain ⟨F1, F2, g1, g2, g3, g4, g5⟩ := h2.split
 refine (hc F1 (fun b => b.1 < w.heap.size /\ ¬ F1 b) g1 (fun _ h => h) (fun r hr => r.mono (fun b hb' => ⟨hb'.2.1, fun h' => hb'.2.2 (g4 b h')⟩) (Lc.refl _ _) (h4 r hr)) (fun a ha => ?_)).mono fun u w' ⟨y, hu, G⟩ => ⟨y, hu, St.back h1 hb g2 g3 g4 g5 h3 h4 G (.inl rfl)⟩
 obtain ⟨F', h6, h7⟩ := g2.mem ha
 exact ⟨F', fun b hb' => ⟨g2.lt b (h6 b hb'), fun h' => g3 b h' (h6 b hb')⟩, h7⟩
theorem St.callR {Y : Type} {val : Y -> Value} {l' : Y -> List As} {rs1 : Y -> List Rd} (h : St w0 (l ++ m) rs w)
  (hc : ∀ X S : Bs, Sep l X w -> (∀ b, S b -> b.1 < w.heap.size /\ ¬ X b) -> (∀ r ∈ rs, r.ok S w) -> Ret P f vs w (fun u w' => ∃ y, u = val y /\ Gives X S w (l' y) (rs1 y) w')) :
  Ret P f vs w (fun u w' => ∃ y, u = val y /\ St w0 (l' y ++ m) (rs1 y ++ rs) w') := by
 obtain ⟨h1, hb, F, h2, h3, h4⟩ := h
 obtain ⟨F1, F2, g1, g2, g3, g4, g5⟩ := h2.split
 refine (hc F1 (fun b => (w0.S b \/ w0.X b \/ w0.w.heap.size <= b.1) /\ b.1 < w.heap.size /\ ¬ F b) g1 (fun b hb' => ⟨hb'.2.1, fun h' => hb'.2.2 (g4 b h')⟩) h4).mono fun u w' ⟨y, hu, G⟩ => ⟨y, hu, St.back h1 hb g2 g3 g4 g5 h3 h4 G (.inr fun b hb' => ⟨hb'.1, fun h' => hb'.2.2 (g5 b h')⟩)⟩
theorem Gives.rel {S : Bs} {w' : World} (h : Gives (fun _ => False) S w m rs w') : Rel w w' := h.relx.rel fun _ h => h
theorem St.callF {Y : Type} {val : Y -> Value} {l' : Y -> List As} (h : St w0 m rs w)
  (hc : ∀ X S : Bs, Sep [] X w -> (∀ b, S b -> b.1 < w.heap.size /\ ¬ X b) -> (∀ r ∈ rs, r.ok S w) -> (∀ a ∈ m, ∃ F, (∀ b, F b -> S b) /\ a.ok F w) -> Ret P f vs w (fun u w' => ∃ y, u = val y /\ Gives X S w (l' y) [] w')) :
  Ret P f vs w (fun u w' => Rel w w' /\ ∃ y, u = val y /\ St w0 (l' y ++ m) rs w') := by
 obtain ⟨h1, hb, F, h2, h3, h4⟩ := h
 refine (hc (fun _ => False) (fun b => b.1 < w.heap.size) (fun _ h => h.elim) (fun _ h => ⟨h, fun h => h⟩) (fun r hr => r.mono (fun b hb' => hb'.2.1) (Lc.refl _ _) (h4 r hr)) (fun a ha => ?_)).mono fun u w' ⟨y, hu, G⟩ => ⟨G.rel, y, hu, St.back (F1 := fun _ => False) h1 hb h2 (fun _ h => h.elim) (fun _ h => h.elim) (fun _ h => h) h3 h4 G (.inl rfl)⟩
 obtain ⟨F', h6, h7⟩ := h2.mem ha
 exact ⟨F', fun b hb' => h2.lt b (h6 b hb'), h7⟩
theorem St.callFR {Y : Type} {val : Y -> Value} {l' : Y -> List As} {rs1 : Y -> List Rd} (h : St w0 m rs w)
  (hc : ∀ X S : Bs, Sep [] X w -> (∀ b, S b -> b.1 < w.heap.size /\ ¬ X b) -> (∀ r ∈ rs, r.ok S w) -> Ret P f vs w (fun u w' => ∃ y, u = val y /\ Gives X S w (l' y) (rs1 y) w')) :
  Ret P f vs w (fun u w' => Rel w w' /\ ∃ y, u = val y /\ St w0 (l' y ++ m) (rs1 y ++ rs) w') := by
 obtain ⟨h1, hb, F, h2, h3, h4⟩ := h
 exact (hc (fun _ => False) (fun b => (w0.S b \/ w0.X b \/ w0.w.heap.size <= b.1) /\ b.1 < w.heap.size /\ ¬ F b) (fun _ h => h.elim) (fun b hb' => ⟨hb'.2.1, fun h' => h'⟩) h4).mono fun u w' ⟨y, hu, G⟩ => ⟨G.rel, y, hu, St.back (F1 := fun _ => False) h1 hb h2 (fun _ h => h.elim) (fun _ h => h.elim) (fun _ h => h) h3 h4 G (.inr fun b hb' => ⟨hb'.1, hb'.2.2⟩)⟩
theorem Bfh {S : Bs} {c : Ce} {v : Value} {vl : List Vi} (h : ∀ a ∈ m, ∃ F, (∀ b, F b -> S b) /\ a.ok F w) (hm : oV (oC c v) vl ∈ m) : c.rd S w v := by
 obtain ⟨F, hF, hk, _⟩ := h _ hm
 exact c.mono hF (Lc.refl _ _) (c.seen hk)
theorem Bfi {S : Bs} {c : Ce} {v : Value} {o : As} {vl : List Vi} (h : ∀ a ∈ m, ∃ F, (∀ b, F b -> S b) /\ a.ok F w) (hm : oV o vl ∈ m) (hr : vR v c ∈ vl) : c.rd S w v := by
 obtain ⟨F, hF, _, hk⟩ := h _ hm
 exact c.mono hF (Lc.refl _ _) (hk _ hr)
end
end
section
open Go.RowKit
theorem Ae6 {A : Type} {l : List A} {q : Nat} {a : A} (h : q < l.length) : l.set q a = l.take q ++ [a] ++ l.drop (q + 1) := by
 rw [List.set_eq_take_append_cons_drop, if_pos h]; simp
theorem Azt : ∀ {q : Nat} {cs : List Ce} {vs : List Value} {c : Ce} {v : Value}, cs[q]? = some c -> vs[q]? = some v -> (Ao cs vs)[q]? = some (oC c v)
 | 0, c :: cs, v :: vs, _, _, h1, h2 => by simp at h1 h2; subst h1; subst h2; rfl
 | q + 1, c :: cs, v :: vs, _, _, h1, h2 => by simp only [Ao, List.getElem?_cons_succ]; exact Azt (by simpa using h1) (by simpa using h2)
 | _, [], _, _, _, h1, _ => by simp at h1
 | _, _ :: _, [], _, _, _, h2 => by simp at h2
theorem Azu : ∀ {cs : List Ce} {vs : List Value}, cs.length = vs.length -> (Ao cs vs).length = vs.length
 | [], [], _ => rfl
 | [], _ :: _, h => by simp at h
 | _ :: _, [], h => by simp at h
 | _ :: _, _ :: _, h => by simp [Ao]; exact Azu (by simpa using h)
theorem Bce {A : Type} {l : List A} {q : Nat} {a : A} (h : l[q]? = some a) : l.Perm (a :: l.eraseIdx q) := by
 obtain ⟨hq, rfl⟩ := List.getElem?_eq_some_iff.1 h
 rw [List.eraseIdx_eq_take_drop_succ]
 have h2 : l = l.take q ++ l[q] :: l.drop (q + 1) := by simp
 conv => lhs; rw [h2]
 exact List.perm_middle
theorem Bcf {A : Type} {l : List A} {q : Nat} {a : A} (h : q < l.length) : (a :: l.eraseIdx q).Perm (l.set q a) := by
 rw [List.eraseIdx_eq_take_drop_succ, Ae6 h, List.append_assoc]
 exact List.perm_middle.symm
def Hz (k : Nat) {T : Type} (f : T -> List Ce) (L : List T) (v : Value) (q : Nat) (u : Value) : As where
 ok := fun F w => ∃ xs : List Value, (L.flatMap f).length = xs.length /\ xs[q]? = some u /\ Sep (Bf k v L.length xs :: (Ao (L.flatMap f) xs).eraseIdx q) F w
 loc := fun h ⟨xs, h1, h2, h3⟩ => ⟨xs, h1, h2, h3.loc h⟩
 lt := fun ⟨_, _, _, h3⟩ hb => h3.lt _ hb
 up := fun hs hl ⟨xs, h1, h2, h3⟩ => ⟨xs, h1, h2, h3.up hs hl⟩
section
variable {w0 : Base} {w w' : World} {m l l' own : List As} {rs : List Rd} {c c' : Ce} {v : Value} {S : Bs}
variable {T : Type} {k : Nat} {f : T -> List Ce} {L : List T}
theorem Ys {F : Bs} {n : Nat} {xs : List Value} (h : (Bf k v n xs).ok F w) {j : Nat} {u : Value} (hj : xs[j]? = some u) : w.cell? (Bq v j) = some u := by
 obtain ⟨_, gl, gr⟩ := h
 rcases gr with ⟨rfl, hn⟩ | ⟨b, off, cap, cur, e, hd, rfl, hb, ⟨hg, _⟩, _, _, _, htk⟩
 ·rw [hn, Nat.zero_mul] at gl
  rw [List.eq_nil_of_length_eq_zero gl] at hj
  simp at hj
 ·exact Yr hg htk hj
theorem St.open [Inhabited T] {vl : List Vi} {i j : Nat} {s : Sv} (h : St w0 (oV (oC (Ad k f L) v) vl :: m) rs w) (hv : vC (Bq v (i * k + j)) s.v ∈ vl) (hf : ∀ x, (f x).length = k) (hi : i < L.length) (hc : (f (el L i))[j]? = some c) :
  St w0 (oC c s.v :: Hz k f L v (i * k + j) s.v :: m) rs w := by
 refine St.iso (l := [oV (oC (Ad k f L) v) vl]) (l' := [oC c s.v, Hz k f L v (i * k + j) s.v]) h fun F ⟨h0, F1, F2, ⟨⟨xs, g1, g2⟩, gv⟩, _, _, h4, _⟩ => ?_
 have hj : j < k := by
  have := (List.getElem?_eq_some_iff.1 hc).1
  rwa [hf] at this
 have hq : (L.flatMap f)[i * k + j]? = some c := by rw [Wh hf L i j hi hj]; exact hc
 have hlt : i * k + j < xs.length := by rw [<- g1]; exact (List.getElem?_eq_some_iff.1 hq).1
 have hcell : w.cell? (Bq v (i * k + j)) = some s.v := (gv _ hv).2.2
 obtain ⟨_, G1, _, k1, _⟩ := id g2
 have hx : xs[i * k + j]? = some s.v := by
  have := Ys k1 (List.getElem?_eq_getElem hlt)
  rw [this] at hcell
  rw [List.getElem?_eq_getElem hlt]; exact hcell
 have hp := Bce (Azt hq hx)
 have g3 : Sep (oC c s.v :: Bf k v L.length xs :: (Ao (L.flatMap f) xs).eraseIdx (i * k + j)) F1 w := g2.perm ((hp.cons _).trans (List.Perm.swap ..))
 obtain ⟨q0, Q1, Q2, q1, q2, q3, q4, q5⟩ := g3
 exact ⟨h0, Q1, Q2, q1, ⟨q2.lt, Q2, fun _ => False, ⟨xs, g1, hx, q2⟩, (fun _ h => h.elim), (fun _ _ h => h), (fun _ h => h), fun _ h => h.elim⟩, q3, fun b hb => h4 b (q4 b hb), fun b hb => h4 b (q5 b hb)⟩
theorem St.more {r : Rd} (h : St w0 m rs w) (hr : ∀ S, (∀ r ∈ rs, r.ok S w) -> r.ok S w) : St w0 m (r :: rs) w := by
 obtain ⟨h1, hb, F, h2, h3, h4⟩ := h
 refine ⟨h1, hb, F, h2, h3, fun r' hr' => ?_⟩
 rcases List.mem_cons.1 hr' with rfl | hr'
 ·exact hr _ h4
 ·exact h4 r' hr'
theorem St.nilS (h : St w0 m rs w) (k : Nat) (f : T -> List Ce) : St w0 (Bf k (.slice none 0 0) ([] : List T).length [] :: m) (rX [] (([] : List T).flatMap f) :: rs) w :=
 (h.pure (At0 k)).more fun _ _ => rfl
theorem St.toS (h : St w0 (oC (Ad k f L) v :: m) rs w) : ∃ xs, St w0 (Bf k v L.length xs :: m) (rX xs (L.flatMap f) :: rs) w := by
 obtain ⟨xs, hl, h1⟩ := h.unrow
 refine ⟨xs, ?_⟩
 have h2 := h1.perm (m' := Ao (L.flatMap f) xs ++ (Bf k v L.length xs :: m)) List.perm_middle.symm
 exact St.fix (l := Ao (L.flatMap f) xs) (r := rX xs (L.flatMap f)) h2 fun F hF => Vo hl hF
theorem St.sealS {xs : List Value} (h : St w0 (Bf k v L.length xs :: m) rs w) (_hf : ∀ x, (f x).length = k) (hr : rX xs (L.flatMap f) ∈ rs) : St w0 m (rV v (Ad k f L) :: rs) w := by
 obtain ⟨h1, hb, F, h2, h3, h4⟩ := h
 obtain ⟨h0, F1, F2, g1, g2, g3, g4, g5⟩ := h2
 have hx := h4 _ hr
 refine ⟨h1, hb, F2, g2, fun b hb' => h3 b (g5 b hb'), fun r hr' => ?_⟩
 rcases List.mem_cons.1 hr' with rfl | hr'
 ·have hx' : Br (fun b => (w0.S b \/ w0.X b \/ w0.w.heap.size <= b.1) /\ b.1 < w.heap.size /\ ¬ F2 b) w (L.flatMap f) xs := Oc (fun b hb' => ⟨hb'.1, hb'.2.1, fun h' => hb'.2.2 (g5 b h')⟩) (Lc.refl _ _) _ _ hx
  obtain ⟨_, gl, gr⟩ := id g1
  rcases gr with ⟨rfl, hn⟩ | ⟨b, off, cap, cur, e, hd, rfl, hbb, hg, hnc, hcm, hsz, htk⟩
  ·exact ⟨none, 0, by rw [hn], by omega, by simp [maxLen], fun hne => absurd (List.eq_nil_of_length_eq_zero hn) hne⟩
  ·refine ⟨_, cap, rfl, hnc, hcm, fun _ => ⟨b, off, xs, rfl, fun j hj => ?_, gl, fun j u hj => ?_, hx'⟩⟩
   ·have hF := hbb j (Nat.lt_of_lt_of_le hj (Nat.mul_le_mul_right _ hnc))
    exact ⟨.inr ((h3 _ (g4 _ hF)).elim .inr .inl), h0 _ (g4 _ hF), g3 _ hF⟩
   ·have := Ys g1 hj
    simpa [Bq] using this
 ·exact r.mono (fun b hb' => ⟨hb'.1, hb'.2.1, fun h' => hb'.2.2 (g5 b h')⟩) (Lc.refl _ _) (h4 r hr')
theorem St.unV {o : As} {vl : List Vi} (h : St w0 (oV o vl :: m) rs w) {r : Rd} (hr : ∀ F, (∀ x ∈ vl, x.ok F w) -> o.ok F w -> r.ok F w) : St w0 m (r :: rs) w :=
 St.fix (l := [oV o vl]) (r := r) h fun _F ⟨_, F1, _, ⟨h1, h2⟩, _, _, h4, _⟩ => r.mono h4 (Lc.refl _ _) (hr F1 h2 h1)
end
section
variable {P : Program} {n : Nat} {ops : Array Oper} {Q : Post} {env : Env} {w : World} {w0 : Base} {rest : List Oper} {ty : TypeId} {pos : String} {af : Array Edge} {m own : List As} {rs : List Rd}
variable {T : Type} {k : Nat} {f : T -> List Ce} {L : List T}
theorem Av4 {d1 d2 : Nat} {x y : Operand} {t e : TypeId} {ty2 : TypeId} {pos2 : String} {af2 : Array Edge} {size bytes : Nat} {z v : Value} {s : Sv} {xs : List Value} (a : T) (hd1 : Nat.blt d1 n = true) (hd2 : Nat.blt d2 n = true)
  (ht : P.underlying t = some (.slice e)) (hs : Sz P e size bytes z) (hx : ev env x = some v) (hvs : v.cells.size = size) (hsm : Nat.ble size 1000 = true) (hsv : ∀ u, ev ((d1, u) :: env) y = some s.v)
  (hM : St w0 (Bf size s.v L.length xs :: m) rs w) (hr0 : rX xs (L.flatMap f) ∈ rs) (hz : ∀ S w, (∀ r ∈ rs, r.ok S w) -> Br S w (f a) v.cells.toList) (hone : v.cells.toList.all (·.oneCell') = true) (h40 : L.length < 1099511627776) (hby : Nat.ble bytes 127 = true)
  (h : ∀ u (s' : Sv) xs' w', St w0 (Bf size s'.v (L ++ [a]).length xs' :: m) (rX xs' ((L ++ [a]).flatMap f) :: rs) w' -> WL P n ops rest Q ((d2, s'.v) :: (d1, u) :: env) w') :
  WL P n ops (⟨some d1, .buildSlice t 1 #[(0, x)], ty, pos, af, none⟩ :: ⟨some d2, .call { callee := .builtin .append, args := #[y, .tmp d1], argTypes := #[t, t] }, ty2, pos2, af2, none⟩ :: rest) Q env w := by
 have hb := At4 (P := P) (w := w) ht hs hvs hsm
 have hby' : bytes <= 127 := by simpa using hby
 refine wv hd1 (v := .slice (some ⟨w.heap.size, 0, none⟩) 1 1) (w' := w.alloc (.cells v.cells e)) (fun a ha => by simp [execOp, ha.ev hx, hb]) ?_
 have hM1 := hM.call (Rel.alloc w (.cells v.cells e))
 have hbox : (w.alloc (.cells v.cells e)).heap[w.heap.size]? = some (.cells v.cells e (0, 0)) := heap_alloc_new w _
 have hsrc : Src P size t (.slice (some ⟨w.heap.size, 0, none⟩) 1 1) 1 v.cells.toList (w.alloc (.cells v.cells e)) :=
  Src.ofSlice _ ht _ _ _ _ (by simp [hvs]) (fun j u hj => by
   rw [Addr.add_lit, Nat.zero_add]
   rw [Array.getElem?_toList] at hj
   simp only [World.cell?, hbox, Option.isSome_none, Bool.false_eq_true, if_false, hj]) (fun u hu => List.all_eq_true.1 hone u hu)
 obtain ⟨s', w', hr, h3⟩ := hM1.appRow (tyy := ty2) ht hs hsrc (by simp only [maxLen]; omega) (by
  have := Nat.mul_le_mul (show L.length + 1 <= 1099511627776 by omega) hby'
  omega)
 refine wv hd2 (v := s'.v) (w' := w') (fun a ha => ?_) (h _ s' (xs ++ v.cells.toList) w' ?_)
 ·have e1 := ha.ev (hsv _)
  have e2 : a.eval (.tmp d1) = .slice (some ⟨w.heap.size, 0, none⟩) 1 1 := ha.ev (x := .tmp d1) (by simp [ev, lk])
  simp [execOp, resolve, invoke, builtin, e1, e2, hr]
 ·rw [List.length_append, List.length_singleton]
  refine h3.more fun S hS => ?_
  show Br S w' _ _
  rw [List.flatMap_append, List.flatMap_cons, List.flatMap_nil, List.append_nil]
  exact Tg (hS _ hr0) (hz S w' hS)
theorem Bjm {K : Value -> World -> Prop} {d : Nat} {x y : Operand} {t e : TypeId} {size bytes : Nat} {z xv : Value} {s : Sv} {xs : List Value} {M : List T} (ht : P.underlying t = some (.slice e)) (hs : Sz P e size bytes z) (hx : ev env x = some xv) (hsv : ev env y = some s.v)
  (_hf : ∀ x, (f x).length = size) (hM : St w0 (Bf size s.v L.length xs :: m) rs w) (hr0 : rX xs (L.flatMap f) ∈ rs) (hsrc : rV xv (Ad size f M) ∈ rs) (h40 : L.length + M.length <= 1099511627776) (hby : Nat.ble bytes 127 = true)
  (h : ∀ (s' : Sv) xs' w', St w0 (Bf size s'.v (L ++ M).length xs' :: m) (rX xs' ((L ++ M).flatMap f) :: rs) w' -> K (s'.v) w') :
  Ex P n env w ⟨some d, .call { callee := .builtin .append, args := #[y, x], argTypes := #[t, t] }, ty, pos, af, none⟩ K := by
 have hby' : bytes <= 127 := by simpa using hby
 have key : ∃ us, Src P size t xv M.length us w /\ St w0 (Bf size s.v L.length xs :: m) (rX us (M.flatMap f) :: rs) w := by
  obtain ⟨h1, hb, F, h2, h3, h4⟩ := hM
  obtain ⟨us, g1, g2⟩ := Cs.src ht (rVg (h4 _ hsrc))
  refine ⟨us, g1, h1, hb, F, h2, h3, fun r hr => ?_⟩
  rcases List.mem_cons.1 hr with rfl | hr
  ·exact g2
  ·exact h4 r hr
 obtain ⟨us, hsr, hM1⟩ := key
 obtain ⟨s', w', hr, h3⟩ := hM1.appRow (tyy := ty) ht hs hsr (by simp only [maxLen]; omega) (by
  have := Nat.mul_le_mul h40 hby'
  omega)
 refine Fx (v := s'.v) (w' := w') (fun a ha => ?_) (h s' (xs ++ us) w' ?_)
 ·simp [execOp, resolve, invoke, builtin, ha.ev hsv, ha.ev hx, hr]
 ·rw [List.length_append]
  have h4 := h3.more (r := rX (xs ++ us) ((L ++ M).flatMap f)) fun S hS => by
   show Br S w' _ _
   rw [List.flatMap_append]
   exact Tg (hS _ (List.mem_cons_of_mem _ hr0)) (hS _ (List.mem_cons_self ..))
  obtain ⟨q1, hb, F, q2, q3, q4⟩ := h4
  refine ⟨q1, hb, F, q2, q3, fun r hr => q4 r ?_⟩
  rcases List.mem_cons.1 hr with rfl | hr
  ·exact List.mem_cons_self ..
  ·exact List.mem_cons_of_mem _ (List.mem_cons_of_mem _ hr)
theorem Bjq {K : Value -> World -> Prop} {d : Nat} {t e : TypeId} {size bytes : Nat} {z : Value} {parts : List (Nat × Operand)} {vs : List (Nat × Value)} (l : List T) (us : List Value) (len : Nat) (ht : P.underlying t = some (.slice e)) (hs : Sz P e size bytes z)
  (hp : evP env parts = some vs) (hl : l.length = len) (hul : us.length = len * size) (hpos : Nat.blt 0 len = true) (hsm : Nat.ble (len * size) 1000 = true)
  (hfill : Instr.fill (fun i => some (i * size, size)) ((Array.range (len * size)).map (z.cells[· % z.cells.size]!)) vs = some us.toArray) (hz : ∀ S w, (∀ r ∈ rs, r.ok S w) -> Br S w (l.flatMap f) us)
  (hM : St w0 m rs w) (h : ∀ (s : Sv) w', Rel w w' -> St w0 (Bf size s.v l.length us :: m) (rX us (l.flatMap f) :: rs) w' -> K s.v w') :
  Ex P n env w ⟨some d, .buildSlice t len parts.toArray, ty, pos, af, none⟩ K := by
 obtain ⟨i, hi, hzz, hsz, hbt⟩ := hs.info
 have hsm' := Nat.le_of_ble_eq_true hsm
 have hpos' : 0 < len := by simpa using hpos
 have hs0 := hs.2.2
 have hne : ¬ len * size = 0 := by
  intro e0
  rcases Nat.mul_eq_zero.1 e0 with h | h <;> omega
 have hmx : len <= maxLen := by
  simp only [maxLen]
  have : len <= len * size := Nat.le_mul_of_pos_right _ hs0
  omega
 refine Fx (v := Sv.v ⟨some ⟨w.heap.size, 0, none⟩, len, len⟩) (w' := w.alloc (.cells us.toArray e)) (fun a ha => ?_) (h _ _ (Rel.alloc w _) ?_)
 ·have h1 := ha.evP hp
  have h2 : (parts.toArray.map fun (i, x) => (i, a.eval x)).toList = vs := by rw [Array.toList_map, <- h1]
  have h3 := run_buildSlice (P := P) w t e len (parts.toArray.map fun p => (p.1, a.eval p.2)) us.toArray i z ht hi hzz (by rw [hsz]; omega) (by rw [hsz]; exact hne) (by rw [hsz, h2]; exact hfill)
  simp only [execOp, Sem.run_bind, h3, Result.andThen_ok, Sem.run_pure]
  rfl
 ·rw [hl]
  exact (hM.allocRow (k := size) (n := len) (cap := len) us [] us.toArray e (by simp) hul (Nat.le_refl _) hmx (by simpa using hul)).more fun S hS => hz S _ hS
end
end
section
open Go.RowKit
def nS : Sv := ⟨none, 0, 0⟩
section
variable {w0 : Base} {w w' : World} {m l l' own : List As} {rs rs' : List Rd} {c c' : Ce} {v : Value} {S : Bs}
variable {T : Type} {k : Nat} {f : T -> List Ce} {L : List T}
theorem St.fewer (h : St w0 m rs w) (hs : ∀ r ∈ rs', r ∈ rs) : St w0 m rs' w := by
 obtain ⟨h1, hb, F, h2, h3, h4⟩ := h
 exact ⟨h1, hb, F, h2, h3, fun r hr => h4 r (hs r hr)⟩
end
section
variable {P : Program} {n : Nat} {env : Env} {w : World} {d : Option Tmp} {ty : TypeId} {pos : String} {af : Array Edge} {g : Option (Nat × Bool)} {Q : Post}
theorem Bdd {f : FuncId} {caps : List Operand} {vs : List Value} (h : evs env caps = some vs) : Runs P n env w ⟨d, .makeFunc (.func f) #[] caps.toArray, ty, pos, af, g⟩ (.func (.func f) #[] vs.toArray) w := fun a ha => by
 have h1 := ha.evs _ _ h
 simp only [execOp, Instr.makeFunc, List.map_toArray, h1, Sem.run_bind, Sem.run_pure, Result.andThen_ok]
 rfl
theorem Bi9 (x : UInt8) : IntKind.i64.wrap (x.toNat : Int) = (x.toNat : Int) := i64_in (by have := x.toNat_lt; omega)
theorem Bd7 {w0 : Base} {m : List As} {rs : List Rd} {a t b : Nat} {fs : Array Field} {size bytes : Nat} {z : Value} {cs : List Value} {e : TypeId} (ht : P.underlying t = some (.struct fs)) (hs : Sz P t size bytes z) (hl : cs.length = size) (hx : lk env a = some (.pointer (some ⟨b, 0, none⟩)))
  (hM : St w0 m rs w) (hm : Aw b cs.toArray e ∈ m) : RV P w env (.cell a t) (.agg cs.toArray) := by
 refine ⟨_, hx, ?_⟩
 have h1 := run_loadCells_list (P := P) (w := w) ⟨b, 0, none⟩ cs (fun j u hj => by rw [Addr.add_lit, Nat.zero_add]; exact Vr hM hm (by simpa using hj))
 rw [hl] at h1
 simp [loadVar, isAgg, run_underlying ht, hs.run, h1]
theorem Bd8 {w0 : Base} {m : List As} {rs : List Rd} {a t b : Nat} {td : TypeDesc} {cs : Array Value} {v : Value} {e : TypeId} (ht : P.underlying t = some td) (hn : Qi td = true) (hx : lk env a = some (.pointer (some ⟨b, 0, none⟩)))
  (hM : St w0 m rs w) (hm : Aw b cs e ∈ m) (hc : cs[0]? = some v) : RV P w env (.cell a t) v := by
 refine ⟨_, hx, ?_⟩
 have h1 := Vr hM hm hc
 have hagg : (isAgg t).run P w = .ok false w := by
  simp only [isAgg, Sem.run_bind, run_underlying ht, Result.andThen_ok]
  cases td <;> first | rfl | cases hn
 simp only [loadVar, Sem.run_bind, hagg, Result.andThen_ok, Bool.false_eq_true, if_false, run_load, h1]
end
end
section
open Go.RowKit
section
variable {P : Program} {ops : Array Oper} {QA : Act -> World -> Prop}
end
section
variable {P : Program} {n : Nat} {l : List Oper} {Q : Post} {env : Env} {w : World} {listed : Array Bool}
end
section
variable {P : Program} {n : Nat} {env : Env} {w : World} {ty : TypeId} {pos : String} {af : Array Edge} {w0 : Base} {m : List As} {rs : List Rd} {T : Type} {f : T -> List Ce}
theorem Awe {K : Value -> World -> Prop} {d : Nat} {t e : TypeId} {size bytes : Nat} {z : Value} (ht : P.underlying t = some (.slice e)) (hs : Sz P e size bytes z) (hf : ∀ x, (f x).length = size) (hM : St w0 m rs w)
  (h : ∀ (b : Nat) w', Rel w w' -> St w0 (oC (Ad size f ([] : List T)) (Sv.v ⟨some ⟨b, 0, none⟩, 0, 0⟩) :: m) rs w' -> K (Sv.v ⟨some ⟨b, 0, none⟩, 0, 0⟩) w') : Ex P n env w ⟨some d, .buildSlice t 0 #[], ty, pos, af, none⟩ K := by
 refine Fx (v := Sv.v ⟨some ⟨w.heap.size, 0, none⟩, 0, 0⟩) (w' := w.alloc (.cells #[] e)) (fun a ha => ?_) (h _ _ (Rel.alloc w _) ?_)
 ·simp [execOp, Instr.buildSlice, run_underlying ht, hs.run, Instr.fill, Go.newRow]
  rw [show (Array.range 0).map (fun _ => (default : Value)) = #[] from by simp]
  exact ⟨rfl, rfl⟩
 ·exact St.newRow (own := []) (us := []) hM e hf rfl (by simp) (fun _ => zN) (by simp [maxLen])
theorem Awd {K : Value -> World -> Prop} {d : Nat} {x y : Operand} {t e : TypeId} {size bytes : Nat} {z xv : Value} {b : Nat} {M : List T} {S : Bs} (ht : P.underlying t = some (.slice e)) (hs : Sz P e size bytes z) (hx : ev env x = some xv) (hsv : ev env y = some (Sv.v ⟨some ⟨b, 0, none⟩, 0, 0⟩))
  (hsrc : (Ad size f M).rd S w xv) (hfl : FlatE f) (hM : St w0 (oC (Ad size f ([] : List T)) (Sv.v ⟨some ⟨b, 0, none⟩, 0, 0⟩) :: m) rs w) (h40 : 0 + M.length <= 1099511627776) (hby : Nat.ble bytes 127 = true)
  (h : ∀ (s' : Sv) w', Rel w w' -> St w0 (oC (Ad size f ([] ++ M)) s'.v :: m) rs w' -> K (s'.v) w') :
  Ex P n env w ⟨some d, .call { callee := .builtin .append, args := #[y, x], argTypes := #[t, t] }, ty, pos, af, none⟩ K := by
 obtain ⟨xs, h1, h2⟩ := Cs.src ht hsrc
 have hby' : bytes <= 127 := by simpa using hby
 have hbb : (0 + M.length) * bytes <= 140737488355328 := by
  have := Nat.mul_le_mul h40 hby'
  omega
 obtain ⟨s', w', hr, h3⟩ := St.app (tyy := ty) (own := []) (M := M) (L := ([] : List T)) ht hs hM h1 rfl (Ob h2).symm (Wk hfl (fun c hc => by
  obtain ⟨a, _, ha⟩ := List.mem_flatMap.1 hc
  exact hfl a c ha) h2 w) (by simp only [maxLen, List.length_nil]; omega) (by simpa using hbb)
 obtain ⟨i, hi, hz, hsz, hbt⟩ := hs.info
 subst hsz
 have hrel : Rel w w' := by
  by_cases hn : M.length = 0
  ·have hr2 := run_append_room_src (P := P) w t t ty e i ht hi b 0 0 0 xv M.length xs h1 (by omega) (fun j hj => by
    have := h1.newsLen; rw [hn] at this; omega) (fun j hj => by
    have := h1.newsLen; rw [hn] at this; omega)
   have hxs : xs = [] := List.eq_nil_of_length_eq_zero (by have := h1.newsLen; rw [hn] at this; omega)
   rw [show (#[Sv.v ⟨some ⟨b, 0, none⟩, 0, 0⟩, xv] : Array Value) = #[.slice (some ⟨b, 0, none⟩) 0 0, xv] from rfl, hr2, hxs] at hr
   obtain ⟨_, rfl⟩ : _ /\ w.setCells b (0 + 0 * i.size) [] = w' := by simpa using hr
   exact Rel.refl w
  ·have hr2 := run_append_grow_src (P := P) w t t ty e i z ht hi hz (some ⟨b, 0, none⟩) 0 0 [] (run_firstCells_some _ _ _ _ _ _ _ (by simp) (fun j u hj => by simp at hj)) xv M.length xs h1 (by omega) (by omega) (by rw [hbt]; exact growslice_fits (by omega) hbb)
   rw [show (#[Sv.v ⟨some ⟨b, 0, none⟩, 0, 0⟩, xv] : Array Value) = #[.slice (some ⟨b, 0, none⟩) 0 0, xv] from rfl, hr2] at hr
   obtain ⟨_, rfl⟩ : _ /\ (w.drew.alloc (.cells (([] ++ xs).toArray ++ Builtin.zeroCells z.cells (grownCap w (0 + M.length) 0 e - (0 + M.length))) e)) = w' := by simpa using hr
   exact (Rel.refl w).drew.trans (Rel.alloc _ _)
 refine Fx (v := s'.v) (w' := w') (fun a ha => ?_) (h s' w' hrel h3)
 simp [execOp, resolve, invoke, builtin, ha.ev hsv, ha.ev hx, hr]
end
section
variable {P : Program} {n : Nat} {env : Env} {w : World} {ty : TypeId} {pos : String} {af : Array Edge} {d : Option Tmp} {g : Option (Nat × Bool)}
theorem Bcz {x : Operand} {t : TypeId} {fs : Array Field} {f : Field} {i : Nat} {cs : Array Value} {v : Value} (ht : P.underlying t = some (.struct fs)) (hi : fs[i]? = some f) (hx : ev env x = some (.agg cs))
  (ha : ∀ w, (isAgg f.type).run P w = .ok false w) (hv : cs[f.offset]? = some v) : Runs P n env w ⟨d, .field t x i, ty, pos, af, g⟩ v w := fun a h => by
 simp [execOp, h.ev hx, Instr.field, run_underlying ht, hi, asAgg, part, ha, hv]
theorem Bc0 {x : Operand} {t : TypeId} {fs : Array Field} {f : Field} {i : Nat} {cs vs : Array Value} {size bytes : Nat} {z : Value} (ht : P.underlying t = some (.struct fs)) (hi : fs[i]? = some f) (hx : ev env x = some (.agg cs))
  (ha : ∀ w, (isAgg f.type).run P w = .ok true w) (hs : Sz P f.type size bytes z) (hv : cs.extract f.offset (f.offset + size) = vs) : Runs P n env w ⟨d, .field t x i, ty, pos, af, g⟩ (.agg vs) w := fun a h => by
 simp [execOp, h.ev hx, Instr.field, run_underlying ht, hi, asAgg, part, ha, hs.run, hv]
theorem Azy {t : TypeId} {fs : Array Field} (ht : P.underlying t = some (.struct fs)) (w : World) : (isAgg t).run P w = .ok true w := by simp [isAgg, run_underlying ht]
end
end
section
open Go.RowKit
def Fs (s : ByteArray) (i : Nat) : UInt8 := (s[i]?).getD 0
section
variable {P : Program} {n : Nat} {env : Env} {w : World} {ty : TypeId} {pos : String} {af : Array Edge} {d : Option Tmp} {g : Option (Nat × Bool)}
theorem Bdo {x i : Operand} {t : TypeId} {s : ByteArray} {m : Int} (ht : P.underlying t = some .string) (hx : ev env x = some (.string s)) (hi : ev env i = some (.int .i64 m)) (h : 0 <= m /\ m < (s.size : Int)) :
  Runs P n env w ⟨d, .index t x i, ty, pos, af, g⟩ (.int .u8 ((Fs s m.toNat).toNat : Int)) w := fun a ha => by
 have hk : m.toNat < s.size := by omega
 have hs : s[m.toNat]? = some (Fs s m.toNat) := by unfold Fs; simp [hk]
 simp [execOp, ha.ev hx, ha.ev hi, Instr.index, asIntOf, run_underlying ht, h.1, hs]
theorem Bcr {x y : Operand} {t u : TypeId} {s r : ByteArray} (hx : ev env x = some (.string s)) (hy : ev env y = some (.string r)) (h : s.size + r.size <= 9223372036854775807) :
  Runs P n env w ⟨d, .binOp .add t x y u, ty, pos, af, g⟩ (.string (s ++ r)) w := fun a ha => by
 have h2 : ¬ IntKind.i64.max < ((s.size : Int) + (r.size : Int)) := by
  have h1 : IntKind.i64.max = 9223372036854775807 := rfl
  omega
 simp [execOp, ha.ev hx, ha.ev hy, eqGuard, binOp, Op.stringOp]; omega
theorem Aju (a b : ByteArray) : (a.toList == b.toList) = decide (a = b) := by
 rw [ByteArray.toList_eq, ByteArray.toList_eq]
 by_cases h : a = b
 ·subst h; simp
 ·rw [decide_eq_false h]
  refine beq_eq_false_iff_ne.2 fun e => h ?_
  have := Array.toList_inj.1 e
  cases a; cases b; simp only at this; rw [this]
theorem Bcx {x y : Operand} {t u : TypeId} {s r : ByteArray} (hx : ev env x = some (.string s)) (hy : ev env y = some (.string r)) :
  Runs P n env w ⟨d, .binOp .eql t x y u, ty, pos, af, g⟩ (.bool (decide (s = r))) w := fun a ha => by
 rw [<- Aju]
 simp [execOp, ha.ev hx, ha.ev hy, eqGuard, binOp, Op.stringOp]
theorem Bdi {x y : Operand} {t u : TypeId} {s r : ByteArray} (hx : ev env x = some (.string s)) (hy : ev env y = some (.string r)) :
  Runs P n env w ⟨d, .binOp .neq t x y u, ty, pos, af, g⟩ (.bool (!decide (s = r))) w := fun a ha => by
 rw [<- Aju]
 simp [execOp, ha.ev hx, ha.ev hy, eqGuard, binOp, Op.stringOp]
def De (a b : ByteArray) : Bool := Op.bytesLess a.toList b.toList
theorem Bda {x y : Operand} {t u : TypeId} {s r : ByteArray} (hx : ev env x = some (.string s)) (hy : ev env y = some (.string r)) :
  Runs P n env w ⟨d, .binOp .lss t x y u, ty, pos, af, g⟩ (.bool (De s r)) w := fun a ha => by
 simp [execOp, ha.ev hx, ha.ev hy, eqGuard, binOp, Op.stringOp, De]
theorem Bc3 {x y : Operand} {t u : TypeId} {s r : ByteArray} (hx : ev env x = some (.string s)) (hy : ev env y = some (.string r)) :
  Runs P n env w ⟨d, .binOp .geq t x y u, ty, pos, af, g⟩ (.bool (!De s r)) w := fun a ha => by
 simp [execOp, ha.ev hx, ha.ev hy, eqGuard, binOp, Op.stringOp, De]
end
end
section
open Go.RowKit
theorem Tryz_mixed : Tryz.prog.follows .mixedOrders = true := by rfl
def fI (n : Int) : List Ce := [cI n]
def fB (b : Bool) : List Ce := [cB b]
def fT (s : ByteArray) : List Ce := [cT s]
def fY (n : UInt8) : List Ce := [cY n]
structure DPart where
 kind : Int
 n : Int
 signs : List Int
deriving DecidableEq, Inhabited
def Pw (x : DPart) : List Ce := [cI x.kind, cI x.n, Ad 1 fI x.signs]
structure DEntry where
 client : Int
 seq : Int
 o : List DPart
deriving DecidableEq, Inhabited
def Sf (x : DEntry) : List Ce := [cI x.client, cI x.seq, Ad 3 Pw x.o]
structure DSeen where
 client : Int
 seq : Int
 rev : Int
deriving DecidableEq, Inhabited
def Aph (x : DSeen) : List Ce := [cI x.client, cI x.seq, cI x.rev]
structure DDoc where
 name : ByteArray
 from_ : Int
 text : List Int
 list : List DEntry
 seen : List DSeen
deriving DecidableEq, Inhabited
def Apg (x : DDoc) : List Ce := [cT x.name, cI x.from_, Ad 1 fI x.text, Ad 3 Sf x.list, Ad 3 Aph x.seen]
structure DRing where
 cap : Int
 next : Int
 out : Bool
 list : List DEntry
deriving DecidableEq, Inhabited
def A1h (x : DRing) : List Ce := [cI x.cap, cI x.next, cB x.out, Ad 3 Sf x.list]
structure DSub where
 id : Int
 doc : ByteArray
 r : DRing
deriving DecidableEq, Inhabited
def Api (x : DSub) : List Ce := [cI x.id, cT x.doc, cI x.r.cap, cI x.r.next, cB x.r.out, Ad 3 Sf x.r.list]
structure DHub where
 shut : Bool
 docs : List DDoc
 subs : List DSub
 last : Int
deriving DecidableEq, Inhabited
def A1c (x : DHub) : List Ce := [cB x.shut, Ad 5 Apg x.docs, Ad 6 Api x.subs, cI x.last]
structure DAnswer where
 code : Int
 rev : Int
 text : List Int
 list : List DEntry
deriving DecidableEq, Inhabited
def A1a (x : DAnswer) : List Ce := [cI x.code, cI x.rev, Ad 1 fI x.text, Ad 3 Sf x.list]
structure DCall where
 kind : Int
 doc : ByteArray
 client : Int
 seq : Int
 n : Int
 o : List DPart
 text : List Int
deriving DecidableEq, Inhabited
def A1b (x : DCall) : List Ce := [cI x.kind, cT x.doc, cI x.client, cI x.seq, cI x.n, Ad 3 Pw x.o, Ad 1 fI x.text]
structure DL01Cur where
 b : List UInt8
 i : Int
 h : Int
deriving DecidableEq, Inhabited
def A1d (x : DL01Cur) : List Ce := [Ad 1 fY x.b, cI x.i, cI x.h]
structure DRest where
 parts : List DPart
deriving DecidableEq, Inhabited
def A1g (x : DRest) : List Ce := [Ad 3 Pw x.parts]
structure DL02B where
 list : List DPart
 put : List Int
 drop : Int
deriving DecidableEq, Inhabited
def A1e (x : DL02B) : List Ce := [Ad 3 Pw x.list, Ad 1 fI x.put, cI x.drop]
structure DL04Cur where
 o : List DPart
 at_ : Int
 done : Int
deriving DecidableEq, Inhabited
def A1f (x : DL04Cur) : List Ce := [Ad 3 Pw x.o, cI x.at_, cI x.done]
theorem sz2 : Sz Tryz.prog 2 1 8 (.int .i64 0) := ⟨by kernel_rfl, rfl, by decide⟩
theorem sz3 : Sz Tryz.prog 3 1 8 (.int .i64 0) := ⟨by kernel_rfl, rfl, by decide⟩
theorem sz4 : Sz Tryz.prog 4 1 1 (.bool false) := ⟨by kernel_rfl, rfl, by decide⟩
theorem sz5 : Sz Tryz.prog 5 1 1 (.int .u8 0) := ⟨by kernel_rfl, rfl, by decide⟩
theorem sz9 : Sz Tryz.prog 9 1 16 (.string ByteArray.empty) := ⟨by kernel_rfl, rfl, by decide⟩
theorem Bgb : Sz Tryz.prog 12 1 8 (.int .u64 0) := ⟨by kernel_rfl, rfl, by decide⟩
theorem Bge : Sz Tryz.prog 13 2 24 (.agg #[.string ByteArray.empty, .int .u64 0]) := ⟨by kernel_rfl, rfl, by decide⟩
theorem Bgp : Sz Tryz.prog 21 1 4 (.int .i32 0) := ⟨by kernel_rfl, rfl, by decide⟩
theorem Bgq : Sz Tryz.prog 22 1 24 (.slice none 0 0) := ⟨by kernel_rfl, rfl, by decide⟩
theorem Bgr : Sz Tryz.prog 23 1 24 (.slice none 0 0) := ⟨by kernel_rfl, rfl, by decide⟩
theorem Bgs : Sz Tryz.prog 24 1 24 (.slice none 0 0) := ⟨by kernel_rfl, rfl, by decide⟩
theorem Bgt : Sz Tryz.prog 25 4 64 (.agg #[.bool false, .slice none 0 0, .slice none 0 0, .int .i64 0]) := ⟨by kernel_rfl, rfl, by decide⟩
theorem Bgu : Sz Tryz.prog 26 4 64 (.agg #[.bool false, .slice none 0 0, .slice none 0 0, .int .i64 0]) := ⟨by kernel_rfl, rfl, by decide⟩
theorem Bgv : Sz Tryz.prog 28 1 24 (.slice none 0 0) := ⟨by kernel_rfl, rfl, by decide⟩
theorem Bgx : Sz Tryz.prog 31 1 24 (.slice none 0 0) := ⟨by kernel_rfl, rfl, by decide⟩
theorem Bgy : Sz Tryz.prog 34 1 24 (.slice none 0 0) := ⟨by kernel_rfl, rfl, by decide⟩
theorem Bgz : Sz Tryz.prog 35 4 48 (.agg #[.int .i64 0, .int .i64 0, .bool false, .slice none 0 0]) := ⟨by kernel_rfl, rfl, by decide⟩
theorem Bg0 : Sz Tryz.prog 36 4 48 (.agg #[.int .i64 0, .int .i64 0, .bool false, .slice none 0 0]) := ⟨by kernel_rfl, rfl, by decide⟩
theorem Bg1 : Sz Tryz.prog 37 6 72 (.agg #[.int .i64 0, .string ByteArray.empty, .int .i64 0, .int .i64 0, .bool false, .slice none 0 0]) := ⟨by kernel_rfl, rfl, by decide⟩
theorem Bg2 : Sz Tryz.prog 38 6 72 (.agg #[.int .i64 0, .string ByteArray.empty, .int .i64 0, .int .i64 0, .bool false, .slice none 0 0]) := ⟨by kernel_rfl, rfl, by decide⟩
theorem Bg4 : Sz Tryz.prog 40 1 24 (.slice none 0 0) := ⟨by kernel_rfl, rfl, by decide⟩
theorem Bg5 : Sz Tryz.prog 41 1 24 (.slice none 0 0) := ⟨by kernel_rfl, rfl, by decide⟩
theorem Bg6 : Sz Tryz.prog 42 5 96 (.agg #[.string ByteArray.empty, .int .i64 0, .slice none 0 0, .slice none 0 0, .slice none 0 0]) := ⟨by kernel_rfl, rfl, by decide⟩
theorem Avh : Sz Tryz.prog 43 5 96 (.agg #[.string ByteArray.empty, .int .i64 0, .slice none 0 0, .slice none 0 0, .slice none 0 0]) := ⟨by kernel_rfl, rfl, by decide⟩
theorem Bg7 : Sz Tryz.prog 44 4 64 (.agg #[.int .i64 0, .int .i64 0, .slice none 0 0, .slice none 0 0]) := ⟨by kernel_rfl, rfl, by decide⟩
theorem Bg8 : Sz Tryz.prog 45 4 64 (.agg #[.int .i64 0, .int .i64 0, .slice none 0 0, .slice none 0 0]) := ⟨by kernel_rfl, rfl, by decide⟩
theorem Bg9 : Sz Tryz.prog 48 1 24 (.slice none 0 0) := ⟨by kernel_rfl, rfl, by decide⟩
theorem Bha : Sz Tryz.prog 49 7 96 (.agg #[.int .i64 0, .string ByteArray.empty, .int .i64 0, .int .i64 0, .int .i64 0, .slice none 0 0, .slice none 0 0]) := ⟨by kernel_rfl, rfl, by decide⟩
theorem Bhc : Sz Tryz.prog 50 7 96 (.agg #[.int .i64 0, .string ByteArray.empty, .int .i64 0, .int .i64 0, .int .i64 0, .slice none 0 0, .slice none 0 0]) := ⟨by kernel_rfl, rfl, by decide⟩
theorem Bhd : Sz Tryz.prog 63 3 40 (.agg #[.slice none 0 0, .int .i64 0, .int .i64 0]) := ⟨by kernel_rfl, rfl, by decide⟩
theorem Bhe : Sz Tryz.prog 64 3 40 (.agg #[.slice none 0 0, .int .i64 0, .int .i64 0]) := ⟨by kernel_rfl, rfl, by decide⟩
theorem Bhf : Sz Tryz.prog 82 1 24 (.slice none 0 0) := ⟨by kernel_rfl, rfl, by decide⟩
theorem Bhg : Sz Tryz.prog 84 3 40 (.agg #[.int .i64 0, .int .i64 0, .slice none 0 0]) := ⟨by kernel_rfl, rfl, by decide⟩
theorem Bhh : Sz Tryz.prog 85 3 40 (.agg #[.int .i64 0, .int .i64 0, .slice none 0 0]) := ⟨by kernel_rfl, rfl, by decide⟩
theorem Bhj : Sz Tryz.prog 98 3 24 (.agg #[.int .i64 0, .int .i64 0, .int .i64 0]) := ⟨by kernel_rfl, rfl, by decide⟩
theorem Avi : Sz Tryz.prog 99 3 24 (.agg #[.int .i64 0, .int .i64 0, .int .i64 0]) := ⟨by kernel_rfl, rfl, by decide⟩
theorem Bgc : Sz Tryz.prog 126 3 40 (.agg #[.int .i64 0, .int .i64 0, .slice none 0 0]) := ⟨by kernel_rfl, rfl, by decide⟩
theorem Bgd : Sz Tryz.prog 127 3 40 (.agg #[.int .i64 0, .int .i64 0, .slice none 0 0]) := ⟨by kernel_rfl, rfl, by decide⟩
theorem Bgf : Sz Tryz.prog 141 1 8 (.int .u64 0) := ⟨by kernel_rfl, rfl, by decide⟩
theorem Bgg : Sz Tryz.prog 143 1 24 (.slice none 0 0) := ⟨by kernel_rfl, rfl, by decide⟩
theorem Bgh : Sz Tryz.prog 168 1 24 (.agg #[.slice none 0 0]) := ⟨by kernel_rfl, rfl, by decide⟩
theorem Bgi : Sz Tryz.prog 169 1 24 (.agg #[.slice none 0 0]) := ⟨by kernel_rfl, rfl, by decide⟩
theorem Bgj : Sz Tryz.prog 173 3 56 (.agg #[.slice none 0 0, .slice none 0 0, .int .i64 0]) := ⟨by kernel_rfl, rfl, by decide⟩
theorem Bgk : Sz Tryz.prog 174 3 56 (.agg #[.slice none 0 0, .slice none 0 0, .int .i64 0]) := ⟨by kernel_rfl, rfl, by decide⟩
theorem Bgl : Sz Tryz.prog 180 3 40 (.agg #[.slice none 0 0, .int .i64 0, .int .i64 0]) := ⟨by kernel_rfl, rfl, by decide⟩
theorem Bgm : Sz Tryz.prog 181 3 40 (.agg #[.slice none 0 0, .int .i64 0, .int .i64 0]) := ⟨by kernel_rfl, rfl, by decide⟩
theorem Bgn : Sz Tryz.prog 192 1 4 (.int .u32 0) := ⟨by kernel_rfl, rfl, by decide⟩
theorem u2 : type_of% Tryz.underlying2 := Tryz.underlying2
theorem u3 : type_of% Tryz.underlying3 := Tryz.underlying3
theorem u4 : type_of% Tryz.underlying4 := Tryz.underlying4
theorem u5 : type_of% Tryz.underlying5 := Tryz.underlying5
theorem u9 : type_of% Tryz.underlying9 := Tryz.underlying9
theorem u12 : type_of% Tryz.underlying12 := Tryz.underlying12
theorem u13 : type_of% Tryz.underlying13 := Tryz.underlying13
theorem u21 : type_of% Tryz.underlying21 := Tryz.underlying21
theorem u22 : type_of% Tryz.underlying22 := Tryz.underlying22
theorem u23 : type_of% Tryz.underlying23 := Tryz.underlying23
theorem u24 : type_of% Tryz.underlying24 := Tryz.underlying24
theorem u25 : type_of% Tryz.underlying25 := Tryz.underlying25
theorem u26 : type_of% Tryz.underlying26 := Tryz.underlying26
theorem u28 : type_of% Tryz.underlying28 := Tryz.underlying28
theorem u31 : type_of% Tryz.underlying31 := Tryz.underlying31
theorem u34 : type_of% Tryz.underlying34 := Tryz.underlying34
theorem u35 : type_of% Tryz.underlying35 := Tryz.underlying35
theorem u36 : type_of% Tryz.underlying36 := Tryz.underlying36
theorem u37 : type_of% Tryz.underlying37 := Tryz.underlying37
theorem u38 : type_of% Tryz.underlying38 := Tryz.underlying38
theorem u40 : type_of% Tryz.underlying40 := Tryz.underlying40
theorem u41 : type_of% Tryz.underlying41 := Tryz.underlying41
theorem u42 : type_of% Tryz.underlying42 := Tryz.underlying42
theorem u43 : type_of% Tryz.underlying43 := Tryz.underlying43
theorem u44 : type_of% Tryz.underlying44 := Tryz.underlying44
theorem u45 : type_of% Tryz.underlying45 := Tryz.underlying45
theorem u48 : type_of% Tryz.underlying48 := Tryz.underlying48
theorem u49 : type_of% Tryz.underlying49 := Tryz.underlying49
theorem u50 : type_of% Tryz.underlying50 := Tryz.underlying50
theorem u63 : type_of% Tryz.underlying63 := Tryz.underlying63
theorem u64 : type_of% Tryz.underlying64 := Tryz.underlying64
theorem u82 : type_of% Tryz.underlying82 := Tryz.underlying82
theorem u84 : type_of% Tryz.underlying84 := Tryz.underlying84
theorem u85 : type_of% Tryz.underlying85 := Tryz.underlying85
theorem u98 : type_of% Tryz.underlying98 := Tryz.underlying98
theorem u99 : type_of% Tryz.underlying99 := Tryz.underlying99
theorem Bh7 : type_of% Tryz.underlying126 := Tryz.underlying126
theorem Bh8 : type_of% Tryz.underlying127 := Tryz.underlying127
theorem Bia : type_of% Tryz.underlying141 := Tryz.underlying141
theorem Bib : type_of% Tryz.underlying143 := Tryz.underlying143
theorem Bic : type_of% Tryz.underlying168 := Tryz.underlying168
theorem Bid : type_of% Tryz.underlying169 := Tryz.underlying169
theorem Bie : type_of% Tryz.underlying173 := Tryz.underlying173
theorem Bif : type_of% Tryz.underlying174 := Tryz.underlying174
theorem Big : type_of% Tryz.underlying180 := Tryz.underlying180
theorem Bih : type_of% Tryz.underlying181 := Tryz.underlying181
theorem Bii : type_of% Tryz.underlying192 := Tryz.underlying192
end
section
open Go.RowKit
section
variable {P : Program} {ops : Array Oper} {QA : Act -> World -> Prop} {I : World -> Prop}
def Fo (P : Program) (ops : Array Oper) (QA : Act -> World -> Prop) (I : World -> Prop) : Nat -> Array Bool -> Array Bool -> Act -> World -> Prop
 | 0, listed, _, a, w => (∀ w1, Rel w w1 -> I w1) /\ Region.ready .any ops listed = [] /\ ∀ w1, Rel w w1 -> QA a w1
 | k + 1, listed, moved, a, w => (∀ w1, Rel w w1 -> I w1) /\ (Region.ready .any ops listed = [] -> ∀ w1, Rel w w1 -> QA a w1) /\
   ∀ i ∈ Region.ready .any ops listed, ∀ w1, Rel w w1 -> Fj P ops (E3 ops moved i) i (Fo P ops QA I k (listed.setIfInBounds i true) moved) a w1
theorem T9 : ∀ {k : Nat} {listed moved : Array Bool} {a : Act} {w w' : World}, Fo P ops QA I k listed moved a w -> Rel w w' -> Fo P ops QA I k listed moved a w'
 | 0, _, _, _, _, _, h, hr => ⟨fun w1 h1 => h.1 w1 (hr.trans h1), h.2.1, fun w1 h1 => h.2.2 w1 (hr.trans h1)⟩
 | _ + 1, _, _, _, _, _, h, hr => ⟨fun w1 h1 => h.1 w1 (hr.trans h1), fun h0 w1 h1 => h.2.1 h0 w1 (hr.trans h1), fun i hi w1 h1 => h.2.2 i hi w1 (hr.trans h1)⟩
theorem Bbs {z z' : Bool} {i : Nat} {a : Act} {w : World} {K K' : Act -> World -> Prop} (hz : z = true -> z' = true) (h : ∀ a w, K a w -> K' a w) (hh : Fj P ops z i K a w) : Fj P ops z' i K' a w := by
 unfold Fj at *
 split
 ·rename_i ho; simp only [ho] at hh
 ·rename_i o ho
  simp only [ho] at hh
  split
  ·rename_i hw
   simp only [hw, if_true] at hh
   exact Fa (fun _ _ ⟨h1, v, h2, h3⟩ => ⟨h1.imp hz id, v, h2, h _ _ h3⟩) hh
  ·rename_i hw; simp only [hw] at hh; exact h _ _ hh
theorem Af5 {i : Nat} : ∀ {k : Nat} {listed moved : Array Bool} {a : Act} {w : World}, Fo P ops QA I k listed (moved.setIfInBounds i true) a w -> Fo P ops QA I k listed moved a w
 | 0, _, _, _, _, h => h
 | _ + 1, _, _, _, _, h => ⟨h.1, h.2.1, fun j hj w1 h1 => Bbs Aa4 (fun _ _ h2 => Af5 h2) (h.2.2 j hj w1 h1)⟩
theorem Af3 {Q : Exit -> Act -> World -> Prop} (hQ : ∀ a w, QA a w -> Q .normal a w) : ∀ (k : Nat) (listed moved : Array Bool) (a : Act) (w : World), Fo P ops QA I k listed moved a w -> wpAny P .any ops Q k listed a w
 | 0, _, _, _, w, h => ⟨h.2.1, hQ _ _ (h.2.2 w (Rel.refl w))⟩
 | k + 1, listed, moved, a, w, h => ⟨fun h0 => hQ _ _ (h.2.1 h0 w (Rel.refl w)), fun i hi => by
   have h1 := h.2.2 i hi w (Rel.refl w)
   unfold Fj at h1
   unfold wpOp
   split
   ·rename_i ho; simp only [ho] at h1
   ·rename_i o ho
    simp only [ho] at h1
    split
    ·rename_i hw
     simp only [hw, if_true] at h1
     exact .inl (Fa (fun _ _ ⟨_, _, _, h3⟩ => Af3 hQ k _ _ _ _ h3) h1)
    ·rename_i hw; simp only [hw] at h1; exact Af3 hQ k _ _ _ _ h1⟩
theorem Bjh {i : Nat} {o : Oper} {v : Value} (hi : ops[i]? = some o) (hsel : ∀ (j : Nat) (o : Oper) cs b, ops[j]? = some o -> o.op ≠ .select cs b) :
  ∀ (k : Nat) (listed moved : Array Bool) (a : Act) (w : World), Down ops listed -> moved.size = listed.size ->
   (∀ j oj, ops[j]? = some oj -> j ≠ i -> listed.getD j true = false -> (∀ e ∈ oj.after, Region.binds .any e = true -> e.on ≠ i) -> o.apart ops oj = true) ->
   i ∈ Region.ready .any ops listed -> Iw P ops o a w v ->
   Fo P ops QA I k (listed.setIfInBounds i true) (moved.setIfInBounds i true) (a.put o.dst v) w -> Fo P ops QA I (k + 1) listed moved a w := by
 intro k
 induction k with
 | zero =>
  intro listed moved a w _ _ _ hr hy H
  refine ⟨H.1, fun h => (by rw [h] at hr; cases hr), fun j hj w1 h1 => ?_⟩
  by_cases hji : j = i
  ·subst hji; exact Ro hi hy h1 fun w' hw' => Af5 (T9 H (h1.trans hw'))
  ·have := ready_mono hj hji
   rw [H.2.1] at this
   cases this
 | succ k ih =>
  intro listed moved a w hd hsz hfree hr hy H
  refine ⟨H.1, fun h => (by rw [h] at hr; cases hr), fun j hj w1 h1 => ?_⟩
  by_cases hji : j = i
  ·subst hji; exact Ro hi hy h1 fun w' hw' => Af5 (T9 H (h1.trans hw'))
  ·have h2 := H.2.2 j (ready_mono hj hji) w1 h1
   obtain ⟨hjun, oj, hoj, hall⟩ := mem_ready.1 hj
   have hnot : ∀ e ∈ oj.after, Region.binds .any e = true -> e.on ≠ i := fun e he hb heq => by
    have h1 := hall e he hb
    have h0 := (mem_ready.1 hr).1
    rw [heq] at h1
    rcases Nat.lt_or_ge i listed.size with h' | h'
    ·simp [h'] at h0 h1; rw [h0] at h1; cases h1
    ·simp [Array.getElem?_eq_none h'] at h1
   have hap := hfree j oj hoj hji hjun hnot
   have hnl : E3 ops (moved.setIfInBounds i true) j = true -> Kh o = true := fun hl => by
    have h9 := (mem_ready.1 hr).1
    rcases Nat.lt_or_ge i listed.size with h' | h'
    ·have h'' : i < moved.size := by omega
     rcases Ajl hd hl hoj ((Array.getElem?_eq_some_iff.1 hi).1) (by simp [h'']) hall with h8 | h8
     ·unfold X2 at h8; simpa only [hi] using h8
     ·simp [h'] at h8 h9; rw [h9] at h8; cases h8
    ·simp [Array.getElem?_eq_none h'] at h9
   obtain ⟨p1, p2, p3⟩ := Oper.apart_spec hap
   have hfree' : ∀ m om, ops[m]? = some om -> m ≠ i -> (listed.setIfInBounds j true).getD m true = false ->
     (∀ e ∈ om.after, Region.binds .any e = true -> e.on ≠ i) -> o.apart ops om = true := fun m om hm hmi hun hno => by
    refine hfree m om hm hmi ?_ hno
    by_cases hjm : j = m
    ·subst hjm; exact hjun
    ·rw [getD_set_ne true hjm] at hun; exact hun
   have hsi := fun cs b => hsel i o cs b hi
   have hsj := fun cs b => hsel j oj cs b hoj
   have keep : ∀ u w2, (Kh o = true \/ Rel w1 w2) -> Iw P ops o (a.put oj.dst u) w2 v := fun u w2 h3 => by
    unfold Iw at *
    rw [wanted_put o a oj.dst u p3]
    rcases hy with ⟨hw, hq⟩ | hy
    ·rcases h3 with h3 | h3
     ·exact .inl ⟨hw, Atk h3 (Te hsi p3 (fun d hd => fun hd' => p2 d hd' hd) hq (Rel.refl w))⟩
     ·exact .inl ⟨hw, Te hsi p3 (fun d hd => fun hd' => p2 d hd' hd) hq (h1.trans h3)⟩
    ·exact .inr hy
   have step : ∀ u w2, (Kh o = true \/ Rel w1 w2) -> Fo P ops QA I k ((listed.setIfInBounds i true).setIfInBounds j true) (moved.setIfInBounds i true) ((a.put o.dst v).put oj.dst u) w2 -> Fo P ops QA I (k + 1) (listed.setIfInBounds j true) moved (a.put oj.dst u) w2 := fun u w2 h3 h4 => by
    refine ih (listed.setIfInBounds j true) moved _ _ (hd.set hj) (by simpa using hsz) hfree' (ready_mono hr (Ne.symm hji)) (keep u w2 h3) ?_
    rw [Array.setIfInBounds_comm _ _ hji, <- Act.put_comm a v u p2]
    exact h4
   unfold Fj at h2 ⊢
   simp only [hoj] at h2 ⊢
   rw [wanted_put oj a o.dst v p1] at h2
   split
   ·rename_i hw
    simp only [hw, if_true] at h2
    exact Fa (fun a' w' ⟨h3, u, h4, h5⟩ => ⟨h3.imp Aa4 id, u, h4, h4 ▸ step u w' (h3.imp hnl id) h5⟩) (Af8 (R := fun w' => E3 ops (moved.setIfInBounds i true) j = true \/ Rel w1 w') hsj p1 h2)
   ·rename_i hw
    simp only [hw] at h2
    exact step undef w1 (.inr (Rel.refl w1)) h2
theorem Av9 {i : Nat} {o : Oper} {v : Value} (hi : ops[i]? = some o) (hsel : ∀ (j : Nat) (o : Oper) cs b, ops[j]? = some o -> o.op ≠ .select cs b) :
  ∀ (k : Nat) (listed moved : Array Bool) (a : Act) (w : World), Down ops listed -> moved.size = listed.size ->
   (∀ j oj, ops[j]? = some oj -> j ≠ i -> listed.getD j true = false -> (∀ e ∈ oj.after, Region.binds .any e = true -> e.on ≠ i) -> o.apart ops oj = true) ->
   i ∈ Region.ready .any ops listed -> (∀ w', (∀ w1, Rel w' w1 -> I w1) -> Iw P ops o a w' v) ->
   Fo P ops QA I k (listed.setIfInBounds i true) moved (a.put o.dst v) w -> Fo P ops QA I (k + 1) listed moved a w := by
 intro k
 induction k with
 | zero =>
  intro listed moved a w _ _ _ hr hy H
  refine ⟨H.1, fun h => (by rw [h] at hr; cases hr), fun j hj w1 h1 => ?_⟩
  by_cases hji : j = i
  ·subst hji; exact Ro hi (hy w H.1) h1 fun w' hw' => T9 H (h1.trans hw')
  ·have := ready_mono hj hji
   rw [H.2.1] at this
   cases this
 | succ k ih =>
  intro listed moved a w hd hsz hfree hr hy H
  refine ⟨H.1, fun h => (by rw [h] at hr; cases hr), fun j hj w1 h1 => ?_⟩
  by_cases hji : j = i
  ·subst hji; exact Ro hi (hy w H.1) h1 fun w' hw' => T9 H (h1.trans hw')
  ·have h2 := H.2.2 j (ready_mono hj hji) w1 h1
   obtain ⟨hjun, oj, hoj, hall⟩ := mem_ready.1 hj
   have hnot : ∀ e ∈ oj.after, Region.binds .any e = true -> e.on ≠ i := fun e he hb heq => by
    have h1 := hall e he hb
    have h0 := (mem_ready.1 hr).1
    rw [heq] at h1
    rcases Nat.lt_or_ge i listed.size with h' | h'
    ·simp [h'] at h0 h1; rw [h0] at h1; cases h1
    ·simp [Array.getElem?_eq_none h'] at h1
   have hap := hfree j oj hoj hji hjun hnot
   obtain ⟨p1, p2, p3⟩ := Oper.apart_spec hap
   have hfree' : ∀ m om, ops[m]? = some om -> m ≠ i -> (listed.setIfInBounds j true).getD m true = false ->
     (∀ e ∈ om.after, Region.binds .any e = true -> e.on ≠ i) -> o.apart ops om = true := fun m om hm hmi hun hno => by
    refine hfree m om hm hmi ?_ hno
    by_cases hjm : j = m
    ·subst hjm; exact hjun
    ·rw [getD_set_ne true hjm] at hun; exact hun
   have hsi := fun cs b => hsel i o cs b hi
   have hsj := fun cs b => hsel j oj cs b hoj
   have keep : ∀ u w2, (∀ w1, Rel w2 w1 -> I w1) -> Iw P ops o (a.put oj.dst u) w2 v := fun u w2 hI => by
    have hy2 := hy w2 hI
    unfold Iw at *
    rw [wanted_put o a oj.dst u p3]
    rcases hy2 with ⟨hw, hq⟩ | hy2
    ·exact .inl ⟨hw, Te hsi p3 (fun d hd => fun hd' => p2 d hd' hd) hq (Rel.refl w2)⟩
    ·exact .inr hy2
   have step : ∀ u w2, Fo P ops QA I k ((listed.setIfInBounds i true).setIfInBounds j true) moved ((a.put o.dst v).put oj.dst u) w2 -> Fo P ops QA I (k + 1) (listed.setIfInBounds j true) moved (a.put oj.dst u) w2 := fun u w2 h4 => by
    refine ih (listed.setIfInBounds j true) moved _ _ (hd.set hj) (by simpa using hsz) hfree' (ready_mono hr (Ne.symm hji)) (keep u) ?_
    rw [Array.setIfInBounds_comm _ _ hji, <- Act.put_comm a v u p2]
    exact h4
   unfold Fj at h2 ⊢
   simp only [hoj] at h2 ⊢
   rw [wanted_put oj a o.dst v p1] at h2
   split
   ·rename_i hw
    simp only [hw, if_true] at h2
    exact Fa (fun a' w' ⟨h3, u, h4, h5⟩ => ⟨h3, u, h4, h4 ▸ step u w' h5⟩) (Af8 (R := fun w' => E3 ops moved j = true \/ Rel w1 w') hsj p1 h2)
   ·rename_i hw
    simp only [hw] at h2
    exact step undef w1 h2
end
section
variable {P : Program} {n : Nat} {l : List Oper} {Q : Post} {env : Env} {w : World} {listed moved : Array Bool} {I : World -> Prop}
end
section
variable {P : Program} {n : Nat} {env : Env} {w : World}
theorem exq {o : Oper} {v : Value} {K : Value -> World -> Prop} (hr : Runs P n env w o v w) (h : K v w) : Ex P n env w o K := ⟨v, w, hr, h⟩
end
section
variable {w0 : Base} {rs : List Rd} {w : World} {m : List As} {a0 a1 a2 a3 a4 a5 a6 a7 a8 a9 a10 a11 a12 a13 a14 : As}
theorem St.p1 (h : St w0 (a0 :: a1 :: m) rs w) : St w0 (a1 :: a0 :: m) rs w := h.pl [1]
theorem St.p2 (h : St w0 (a0 :: a1 :: a2 :: m) rs w) : St w0 (a2 :: a0 :: a1 :: m) rs w := h.pl [2]
theorem St.p3 (h : St w0 (a0 :: a1 :: a2 :: a3 :: m) rs w) : St w0 (a3 :: a0 :: a1 :: a2 :: m) rs w := h.pl [3]
theorem St.p4 (h : St w0 (a0 :: a1 :: a2 :: a3 :: a4 :: m) rs w) : St w0 (a4 :: a0 :: a1 :: a2 :: a3 :: m) rs w := h.pl [4]
theorem St.p5 (h : St w0 (a0 :: a1 :: a2 :: a3 :: a4 :: a5 :: m) rs w) : St w0 (a5 :: a0 :: a1 :: a2 :: a3 :: a4 :: m) rs w := h.pl [5]
theorem St.p6 (h : St w0 (a0 :: a1 :: a2 :: a3 :: a4 :: a5 :: a6 :: m) rs w) : St w0 (a6 :: a0 :: a1 :: a2 :: a3 :: a4 :: a5 :: m) rs w := h.pl [6]
theorem St.p7 (h : St w0 (a0 :: a1 :: a2 :: a3 :: a4 :: a5 :: a6 :: a7 :: m) rs w) : St w0 (a7 :: a0 :: a1 :: a2 :: a3 :: a4 :: a5 :: a6 :: m) rs w := h.pl [7]
theorem St.t0 (h : St w0 (m) rs w) : St w0 [] rs w := h.tk 0
theorem St.t1 (h : St w0 (a0 :: m) rs w) : St w0 [a0] rs w := h.tk 1
theorem St.t2 (h : St w0 (a0 :: a1 :: m) rs w) : St w0 [a0, a1] rs w := h.tk 2
theorem St.t3 (h : St w0 (a0 :: a1 :: a2 :: m) rs w) : St w0 [a0, a1, a2] rs w := h.tk 3
theorem St.t4 (h : St w0 (a0 :: a1 :: a2 :: a3 :: m) rs w) : St w0 [a0, a1, a2, a3] rs w := h.tk 4
end
end
section
open Go.RowKit
section
variable {w0 : Base} {w : World} {m : List As} {rs : List Rd} {T : Type} {k q : Nat} {f : T -> List Ce} {L : List T} {v : Value}
theorem St.valV {u u0 : Value} {hu : u.oneCell' = true} (h : St w0 (oC (cV u hu) u0 :: m) rs w) : u0 = u /\ St w0 m rs w := by
 refine ⟨?_, h.drop⟩
 obtain ⟨F, h1⟩ := h.at' (a := oC (cV u hu) u0) (.head _)
 exact h1.1
theorem St.valS {T' : Type} {k' : Nat} {f' : T' -> List Ce} {L' : List T'} {u : Value} (h : St w0 (oC (Ad k' f' L') u :: m) rs w) : ∃ s : Sv, u = s.v /\ St w0 (oC (Ad k' f' L') s.v :: m) rs w := by
 obtain ⟨s, e⟩ := Cs.sv (h.seeO (.head _))
 exact ⟨s, e, e ▸ h⟩
end
section
variable {P : Program} {n : Nat} {env : Env} {w : World} {d : Option Tmp} {ty : TypeId} {pos : String} {af : Array Edge} {g : Option (Nat × Bool)} {k n0 : Nat} {v : Value}
end
section
variable {P : Program} {n : Nat} {env : Env} {w : World} {d : Option Tmp} {ty : TypeId} {pos : String} {af : Array Edge} {g : Option (Nat × Bool)}
end
section
variable {P : Program} {n : Nat} {Q : Post} {env : Env} {w : World} {c : Code} {ops : Array Oper} {l rest : List Oper} {ty : TypeId} {pos : String} {af : Array Edge} {r : List (Oper × Nat)}
theorem C8 (h : WC P n c Q env w) : WL P n ops [] (sq P n c Q) env w := Af1 (Ij h)
theorem C7 {id : Nat} {y : Code} (h : WL P n l.toArray l (sq P n y Q) env w) : WC P n (.seq (.region id l.toArray false) y) Q env w := Fu (Afy h)
theorem Ba {d : Nat} {x : Operand} {v : Value} (hd : Nat.blt d n = true) (hx : ev env x = some v) (h : WL P n ops rest Q ((d, v) :: env) w) : WL P n ops (⟨some d, .move x, ty, pos, af, none⟩ :: rest) Q env w := wv hd (Aeh hx) h
theorem Ft {d : Nat} {x : Operand} {v : Value} (hd : Nat.blt d n = true) (hx : ev env x = some v) (h : WL P n ops rest Q ((d, v) :: env) w) : WL P n ops (⟨some d, .assign x, ty, pos, af, none⟩ :: rest) Q env w := wv hd (Atm hx) h
theorem Es {d : Nat} {x : Operand} {v : Value} (hd : Nat.blt d n = true) (hx : ev env x = some v) (h : WO P n ops Q r ((d, v) :: env) w) : WO P n ops Q ((⟨some d, .move x, ty, pos, af, none⟩, 0) :: r) env w := ov hd (fun _ _ => Aeh hx) h
theorem X5 {w0 : Base} {m : List As} {rs : List Rd} (hM : St w0 m rs w) (h : ∀ w1, St w0 m rs w1 -> Q .normal env w1) : WO P n ops Q [] env w := Asn fun w1 h1 => h w1 (hM.call h1)
end
end
section
open Go.RowKit
abbrev iv (n : Int) : Value := .int .i64 n
abbrev bv (b : Bool) : Value := .bool b
abbrev pt (b o : Nat) : Value := .pointer (some ⟨b, o, none⟩)
abbrev SX (X S : Bs) (w : World) : Prop := ∀ b, S b -> b.1 < w.heap.size /\ ¬ X b
abbrev KV (X S : Bs) (w : World) (v : Value) : Value -> World -> Prop := fun u w' => ∃ _ : Unit, u = v /\ Gives X S w [] [] w'
section
variable {α : Type} {a b0 b1 b2 b3 b4 b5 b6 b7 b8 b9 b10 b11 b12 b13 b14 : α} {l : List α}
theorem m0 : a ∈ a :: l := .head _
theorem m1 : a ∈ b0 :: a :: l := .tail _ m0
theorem m2 : a ∈ b0 :: b1 :: a :: l := .tail _ m1
theorem m3 : a ∈ b0 :: b1 :: b2 :: a :: l := .tail _ m2
theorem m4 : a ∈ b0 :: b1 :: b2 :: b3 :: a :: l := .tail _ m3
theorem m5 : a ∈ b0 :: b1 :: b2 :: b3 :: b4 :: a :: l := .tail _ m4
theorem m6 : a ∈ b0 :: b1 :: b2 :: b3 :: b4 :: b5 :: a :: l := .tail _ m5
end
section
variable {α β : Type} {G : Prop}
theorem bs {x : Option α} {f : α -> Option β} {r : β} (h : x.bind f = some r) (k : ∀ y, x = some y -> f y = some r -> G) : G := by
 obtain ⟨y, h1, h2⟩ := Af h
 exact k y h1 h2
end
section
variable {P : Program} {n : Nat} {ops : Array Oper} {Q : Post} {env : Env} {w w1 : World} {w0 : Base} {rest l' : List Oper} {ty ty2 : TypeId} {pos pos2 : String} {af af2 : Array Edge} {m l : List As} {rs : List Rd}
theorem St.addV {X S : Bs} (h : St ⟨w1, X, S⟩ m rs w1) {c : Ce} {v : Value} (hr : c.rd S w1 v) : St ⟨w1, X, S⟩ m (rV v c :: rs) w1 := h.addE (r := rV v c) hr
end
end
section
open Go.RowKit
section
variable {P : Program} {n : Nat} {env : Env} {w : World} {d : Option Tmp} {ty : TypeId} {pos : String} {af : Array Edge} {g : Option (Nat × Bool)}
end
section
variable {P : Program} {n : Nat} {env : Env} {w : World} {ty : TypeId} {pos : String} {af : Array Edge} {w0 : Base} {m : List As} {rs : List Rd} {T : Type} {f : T -> List Ce}
theorem Bjl {K : Value -> World -> Prop} {d : Nat} {x y : Operand} {t e : TypeId} {size bytes : Nat} {z xv : Value} {M : List T} {S : Bs} (ht : P.underlying t = some (.slice e)) (hs : Sz P e size bytes z) (hx : ev env x = some xv) (hsv : ev env y = some nS.v)
  (hsrc : (Ad size f M).rd S w xv) (hfl : FlatE f) (hM : St w0 (oC (Ad size f ([] : List T)) nS.v :: m) rs w) (h40 : 0 + M.length <= 1099511627776) (hby : Nat.ble bytes 127 = true)
  (h : ∀ (s' : Sv) w', Rel w w' -> St w0 (oC (Ad size f ([] ++ M)) s'.v :: m) rs w' -> K (s'.v) w') :
  Ex P n env w ⟨some d, .call { callee := .builtin .append, args := #[y, x], argTypes := #[t, t] }, ty, pos, af, none⟩ K := by
 obtain ⟨xs, h1, h2⟩ := Cs.src ht hsrc
 have hby' : bytes <= 127 := by simpa using hby
 have hbb : (0 + M.length) * bytes <= 140737488355328 := by
  have := Nat.mul_le_mul h40 hby'
  omega
 obtain ⟨s', w', hr, h3⟩ := St.app (tyy := ty) (own := []) (M := M) (L := ([] : List T)) ht hs hM h1 rfl (Ob h2).symm (Wk hfl (fun c hc => by
  obtain ⟨a, _, ha⟩ := List.mem_flatMap.1 hc
  exact hfl a c ha) h2 w) (by simp only [maxLen, List.length_nil]; omega) (by simpa using hbb)
 obtain ⟨i, hi, hz, hsz, hbt⟩ := hs.info
 subst hsz
 have hrel : Rel w w' := by
  by_cases hn : M.length = 0
  ·have hk := h1.kind
   have hc := h1.cells
   have hl := h1.len
   rw [hn] at hc hl
   have hr2 := hr
   rw [show (#[nS.v, xv] : Array Value) = #[.slice none 0 0, xv] from rfl] at hr2
   have : s'.v = nS.v /\ w' = w := by
    rcases hk with ⟨e2, hk⟩ | hk <;> (simp [Builtin.append_, run_underlying ht, sizeOf, typeInfo, hi, hc, hl] at hr2; exact ⟨hr2.1.symm, hr2.2.symm⟩)
   rw [this.2]
   exact Rel.refl w
  ·have hr2 := run_append_grow_src (P := P) w t t ty e i z ht hi hz none 0 0 [] (run_firstCells_none _ _ _ _ _) xv M.length xs h1 (by omega) (by omega) (by rw [hbt]; exact growslice_fits (by omega) hbb)
   rw [show (#[nS.v, xv] : Array Value) = #[.slice none 0 0, xv] from rfl, hr2] at hr
   obtain ⟨_, rfl⟩ : _ /\ (w.drew.alloc (.cells (([] ++ xs).toArray ++ Builtin.zeroCells z.cells (grownCap w (0 + M.length) 0 e - (0 + M.length))) e)) = w' := by simpa using hr
   exact (Rel.refl w).drew.trans (Rel.alloc _ _)
 refine Fx (v := s'.v) (w' := w') (fun a ha => ?_) (h s' w' hrel h3)
 simp [execOp, resolve, invoke, builtin, ha.ev hsv, ha.ev hx, hr]
end
end
section
open Go.RowKit
inductive HV where
 | row (s : Sv)
 | box (b : Nat)
 | num (k : Nat)
inductive Cell where
 | i (k : IntKind) (n : Int)
 | y (n : UInt8)
 | b (b : Bool)
 | s (s : ByteArray)
 | sl (h : Nat)
 | nil
 | ptr (h o : Nat)
 | ep (h k i j : Nat)
 | ix (u k h : Nat)
 | sx (u k h : Nat)
 | ln (h n : Nat)
 | fn (f : FuncId) (caps : List (Nat × Nat))
 | lt (h : Nat)
 | er (ok : Bool)
 | raw (v : Value)
inductive V1 where
 | c (x : Cell)
 | a (l : List Cell)
inductive SV where
 | v (x : V1)
 | t (l : List V1)
inductive Ty where
 | b (n : Nat)
 | sl (e : Ty)
def Ty.beq : Ty -> Ty -> Bool
 | .b m, .b n => Nat.beq m n
 | .sl x, .sl y => Ty.beq x y
 | _, _ => false
theorem Ty.eq_of_beq : ∀ {x y : Ty}, Ty.beq x y = true -> x = y
 | .b _, .b _, h => congrArg Ty.b (Nat.eq_of_beq_eq_true h)
 | .sl _, .sl _, h => congrArg Ty.sl (Ty.eq_of_beq (by simpa [Ty.beq] using h))
 | .b _, .sl _, h => by simp [Ty.beq] at h
 | .sl _, .b _, h => by simp [Ty.beq] at h
theorem Ty.beq_refl : ∀ x : Ty, Ty.beq x x = true
 | .b n => by simp [Ty.beq]
 | .sl x => by simpa [Ty.beq] using Ty.beq_refl x
inductive TK where
 | int (k : IntKind)
 | bool
 | str
 | slice (e : TypeId)
 | struct (fs : List (Nat × TypeId))
 | other
structure TI where
 k : TK
 size : Nat
 bytes : Nat
 zero : List Cell
 ty : Option Ty
def Cell.val : Cell -> Value
 | .i k x => .int k x
 | .y x => .int .u8 (x.toNat : Int)
 | .b x => .bool x
 | .s x => .string x
 | .nil => .slice none 0 0
 | .raw x => x
 | _ => .nilFunc
def TK.Is : TK -> TypeDesc -> Prop
 | .int k, d => d = .int k
 | .bool, d => d = .bool
 | .str, d => d = .string
 | .slice e, d => d = .slice e
 | .struct fs, d => ∃ l : Array Field, d = .struct l /\ l.toList.map (fun f => (f.offset, f.type)) = fs
 | .other, d => Qi d = true
structure TIok (P : Program) (t : TypeId) (i : TI) : Prop where
 u : ∃ d, P.underlying t = some d /\ i.k.Is d
 z : ∃ z, Sz P t i.size i.bytes z /\ z.cells.toList = i.zero.map Cell.val
end
section
open Go.RowKit
def Ka : Nat -> Type
 | 0 => Int
 | 1 => Bool
 | 2 => ByteArray
 | 3 => UInt8
 | 4 => DPart
 | 5 => DEntry
 | 6 => DSeen
 | 7 => DDoc
 | 8 => DRing
 | 9 => DSub
 | 10 => DHub
 | 11 => DAnswer
 | 12 => DCall
 | 13 => DL01Cur
 | 14 => DRest
 | 15 => DL02B
 | 16 => DL04Cur
 | _ + 17 => Unit
def Ax : Ty -> Type
 | .b n => Ka n
 | .sl e => List (Ax e)
instance inhB (n : Nat) : Inhabited (Ka n) := match n with
 | 0 => inferInstanceAs (Inhabited Int)
 | 1 => inferInstanceAs (Inhabited Bool)
 | 2 => inferInstanceAs (Inhabited ByteArray)
 | 3 => inferInstanceAs (Inhabited UInt8)
 | 4 => inferInstanceAs (Inhabited DPart)
 | 5 => inferInstanceAs (Inhabited DEntry)
 | 6 => inferInstanceAs (Inhabited DSeen)
 | 7 => inferInstanceAs (Inhabited DDoc)
 | 8 => inferInstanceAs (Inhabited DRing)
 | 9 => inferInstanceAs (Inhabited DSub)
 | 10 => inferInstanceAs (Inhabited DHub)
 | 11 => inferInstanceAs (Inhabited DAnswer)
 | 12 => inferInstanceAs (Inhabited DCall)
 | 13 => inferInstanceAs (Inhabited DL01Cur)
 | 14 => inferInstanceAs (Inhabited DRest)
 | 15 => inferInstanceAs (Inhabited DL02B)
 | 16 => inferInstanceAs (Inhabited DL04Cur)
 | _ + 17 => inferInstanceAs (Inhabited Unit)
instance inhD (t : Ty) : Inhabited (Ax t) := match t with
 | .b n => inhB n
 | .sl _ => ⟨[]⟩
inductive Leaf where
 | i (n : Int)
 | b (b : Bool)
 | s (s : ByteArray)
 | y (n : UInt8)
 | sl (t : Ty) (l : List (Ax t))
def szQ : Nat -> Nat
 | 0 => 1
 | 1 => 1
 | 2 => 1
 | 3 => 1
 | 4 => 3
 | 5 => 3
 | 6 => 3
 | 7 => 5
 | 8 => 4
 | 9 => 6
 | 10 => 4
 | 11 => 4
 | 12 => 7
 | 13 => 3
 | 14 => 1
 | 15 => 3
 | 16 => 3
 | _ + 17 => 0
def sz : Ty -> Nat
 | .b n => szQ n
 | .sl _ => 1
def fTB : (n : Nat) -> Ka n -> List Ce
 | 0 => fI
 | 1 => fB
 | 2 => fT
 | 3 => fY
 | 4 => Pw
 | 5 => Sf
 | 6 => Aph
 | 7 => Apg
 | 8 => A1h
 | 9 => Api
 | 10 => A1c
 | 11 => A1a
 | 12 => A1b
 | 13 => A1d
 | 14 => A1g
 | 15 => A1e
 | 16 => A1f
 | _ + 17 => fun _ => []
def fD : (t : Ty) -> Ax t -> List Ce
 | .b n => fTB n
 | .sl e => fun l => [Ad (sz e) (fD e) l]
def Leaf.ce : Leaf -> Ce
 | .i x => cI x
 | .b x => cB x
 | .s x => cT x
 | .y x => cY x
 | .sl t l => Ad (sz t) (fD t) l
def Leaf.ty : Leaf -> Ty
 | .i _ => .b 0
 | .b _ => .b 1
 | .s _ => .b 2
 | .y _ => .b 3
 | .sl t _ => .sl t
def lvB : Nat -> List Ty
 | 0 => [.b 0]
 | 1 => [.b 1]
 | 2 => [.b 2]
 | 3 => [.b 3]
 | 4 => [.b 0, .b 0, .sl (.b 0)]
 | 5 => [.b 0, .b 0, .sl (.b 4)]
 | 6 => [.b 0, .b 0, .b 0]
 | 7 => [.b 2, .b 0, .sl (.b 0), .sl (.b 5), .sl (.b 6)]
 | 8 => [.b 0, .b 0, .b 1, .sl (.b 5)]
 | 9 => [.b 0, .b 2, .b 0, .b 0, .b 1, .sl (.b 5)]
 | 10 => [.b 1, .sl (.b 7), .sl (.b 9), .b 0]
 | 11 => [.b 0, .b 0, .sl (.b 0), .sl (.b 5)]
 | 12 => [.b 0, .b 2, .b 0, .b 0, .b 0, .sl (.b 4), .sl (.b 0)]
 | 13 => [.sl (.b 3), .b 0, .b 0]
 | 14 => [.sl (.b 4)]
 | 15 => [.sl (.b 4), .sl (.b 0), .b 0]
 | 16 => [.sl (.b 4), .b 0, .b 0]
 | _ + 17 => []
def D4 : Ty -> List Ty
 | .b n => lvB n
 | .sl e => [.sl e]
def Eb : (n : Nat) -> Ka n -> List Leaf
 | 0 => fun x => [.i x]
 | 1 => fun x => [.b x]
 | 2 => fun x => [.s x]
 | 3 => fun x => [.y x]
 | 4 => fun (x : DPart) => [.i x.kind, .i x.n, .sl (.b 0) x.signs]
 | 5 => fun (x : DEntry) => [.i x.client, .i x.seq, .sl (.b 4) x.o]
 | 6 => fun (x : DSeen) => [.i x.client, .i x.seq, .i x.rev]
 | 7 => fun (x : DDoc) => [.s x.name, .i x.from_, .sl (.b 0) x.text, .sl (.b 5) x.list, .sl (.b 6) x.seen]
 | 8 => fun (x : DRing) => [.i x.cap, .i x.next, .b x.out, .sl (.b 5) x.list]
 | 9 => fun (x : DSub) => [.i x.id, .s x.doc, .i x.r.cap, .i x.r.next, .b x.r.out, .sl (.b 5) x.r.list]
 | 10 => fun (x : DHub) => [.b x.shut, .sl (.b 7) x.docs, .sl (.b 9) x.subs, .i x.last]
 | 11 => fun (x : DAnswer) => [.i x.code, .i x.rev, .sl (.b 0) x.text, .sl (.b 5) x.list]
 | 12 => fun (x : DCall) => [.i x.kind, .s x.doc, .i x.client, .i x.seq, .i x.n, .sl (.b 4) x.o, .sl (.b 0) x.text]
 | 13 => fun (x : DL01Cur) => [.sl (.b 3) x.b, .i x.i, .i x.h]
 | 14 => fun (x : DRest) => [.sl (.b 4) x.parts]
 | 15 => fun (x : DL02B) => [.sl (.b 4) x.list, .sl (.b 0) x.put, .i x.drop]
 | 16 => fun (x : DL04Cur) => [.sl (.b 4) x.o, .i x.at_, .i x.done]
 | _ + 17 => fun _ => []
def Ay : (t : Ty) -> Ax t -> List Leaf
 | .b n => Eb n
 | .sl e => fun l => [.sl e l]
def Hr (a b : Ty) (l : List (Ax a)) : Option (List (Ax b)) := if h : Ty.beq a b = true then some (Ty.eq_of_beq h ▸ l) else none
theorem A0h {a b : Ty} {l : List (Ax a)} {m : List (Ax b)} (h : Hr a b l = some m) : Leaf.sl a l = Leaf.sl b m := by
 unfold Hr at h
 split at h
 ·rename_i hb
  cases Ty.eq_of_beq hb
  cases h
  rfl
 ·cases h
def qI : List Leaf -> Option (Int × List Leaf)
 | .i n :: r => some (n, r)
 | _ => none
def qB : List Leaf -> Option (Bool × List Leaf)
 | .b n :: r => some (n, r)
 | _ => none
def qT : List Leaf -> Option (ByteArray × List Leaf)
 | .s n :: r => some (n, r)
 | _ => none
def qY : List Leaf -> Option (UInt8 × List Leaf)
 | .y n :: r => some (n, r)
 | _ => none
def qL (e : Ty) : List Leaf -> Option (List (Ax e) × List Leaf)
 | .sl t l :: r => Option.bind (Hr t e l) fun m => some (m, r)
 | _ => none
theorem Dz {l : List Leaf} {q : Int × List Leaf} (h : qI l = some q) : l = .i q.1 :: q.2 := by
 unfold qI at h; split at h <;> cases h; rfl
theorem Aee {l : List Leaf} {q : Bool × List Leaf} (h : qB l = some q) : l = .b q.1 :: q.2 := by
 unfold qB at h; split at h <;> cases h; rfl
theorem Yj {l : List Leaf} {q : ByteArray × List Leaf} (h : qT l = some q) : l = .s q.1 :: q.2 := by
 unfold qT at h; split at h <;> cases h; rfl
theorem Bco {l : List Leaf} {q : UInt8 × List Leaf} (h : qY l = some q) : l = .y q.1 :: q.2 := by
 unfold qY at h; split at h <;> cases h; rfl
theorem E8 {e : Ty} {l : List Leaf} {q : List (Ax e) × List Leaf} (h : qL e l = some q) : l = .sl e q.1 :: q.2 := by
 unfold qL at h
 split at h
 ·obtain ⟨m, h1, h⟩ := Af h
  cases h
  rw [A0h h1]
 ·cases h
def Ad7 (l : List Leaf) : Option (DPart × List Leaf) := Option.bind (qI l) fun q0 => Option.bind (qI q0.2) fun q1 => Option.bind (qL (.b 0) q1.2) fun q2 => some (⟨q0.1, q1.1, q2.1⟩, q2.2)
theorem Bb8 {l : List Leaf} {q : DPart × List Leaf} (h : Ad7 l = some q) : l = Eb 4 q.1 ++ q.2 := by
 unfold Ad7 at h
 obtain ⟨q0, h0, h⟩ := Af h
 obtain ⟨q1, h1, h⟩ := Af h
 obtain ⟨q2, h2, h⟩ := Af h
 cases h
 rw [Dz h0, Dz h1, E8 h2]
 rfl
def Ad2 (l : List Leaf) : Option (DEntry × List Leaf) := Option.bind (qI l) fun q0 => Option.bind (qI q0.2) fun q1 => Option.bind (qL (.b 4) q1.2) fun q2 => some (⟨q0.1, q1.1, q2.1⟩, q2.2)
theorem Bb3 {l : List Leaf} {q : DEntry × List Leaf} (h : Ad2 l = some q) : l = Eb 5 q.1 ++ q.2 := by
 unfold Ad2 at h
 obtain ⟨q0, h0, h⟩ := Af h
 obtain ⟨q1, h1, h⟩ := Af h
 obtain ⟨q2, h2, h⟩ := Af h
 cases h
 rw [Dz h0, Dz h1, E8 h2]
 rfl
def Ad9 (l : List Leaf) : Option (DSeen × List Leaf) := Option.bind (qI l) fun q0 => Option.bind (qI q0.2) fun q1 => Option.bind (qI q1.2) fun q2 => some (⟨q0.1, q1.1, q2.1⟩, q2.2)
theorem Bca {l : List Leaf} {q : DSeen × List Leaf} (h : Ad9 l = some q) : l = Eb 6 q.1 ++ q.2 := by
 unfold Ad9 at h
 obtain ⟨q0, h0, h⟩ := Af h
 obtain ⟨q1, h1, h⟩ := Af h
 obtain ⟨q2, h2, h⟩ := Af h
 cases h
 rw [Dz h0, Dz h1, Dz h2]
 rfl
def Ad1 (l : List Leaf) : Option (DDoc × List Leaf) := Option.bind (qT l) fun q0 => Option.bind (qI q0.2) fun q1 => Option.bind (qL (.b 0) q1.2) fun q2 => Option.bind (qL (.b 5) q2.2) fun q3 => Option.bind (qL (.b 6) q3.2) fun q4 => some (⟨q0.1, q1.1, q2.1, q3.1, q4.1⟩, q4.2)
theorem Bb2 {l : List Leaf} {q : DDoc × List Leaf} (h : Ad1 l = some q) : l = Eb 7 q.1 ++ q.2 := by
 unfold Ad1 at h
 obtain ⟨q0, h0, h⟩ := Af h
 obtain ⟨q1, h1, h⟩ := Af h
 obtain ⟨q2, h2, h⟩ := Af h
 obtain ⟨q3, h3, h⟩ := Af h
 obtain ⟨q4, h4, h⟩ := Af h
 cases h
 rw [Yj h0, Dz h1, E8 h2, E8 h3, E8 h4]
 rfl
def Yb (l : List Leaf) : Option (DRing × List Leaf) := Option.bind (qI l) fun q0 => Option.bind (qI q0.2) fun q1 => Option.bind (qB q1.2) fun q2 => Option.bind (qL (.b 5) q2.2) fun q3 => some (⟨q0.1, q1.1, q2.1, q3.1⟩, q3.2)
theorem As9 {l : List Leaf} {q : DRing × List Leaf} (h : Yb l = some q) : l = Eb 8 q.1 ++ q.2 := by
 unfold Yb at h
 obtain ⟨q0, h0, h⟩ := Af h
 obtain ⟨q1, h1, h⟩ := Af h
 obtain ⟨q2, h2, h⟩ := Af h
 obtain ⟨q3, h3, h⟩ := Af h
 cases h
 rw [Dz h0, Dz h1, Aee h2, E8 h3]
 rfl
def Aea (l : List Leaf) : Option (DSub × List Leaf) := Option.bind (qI l) fun q0 => Option.bind (qT q0.2) fun q1 => Option.bind (Yb q1.2) fun q2 => some (⟨q0.1, q1.1, q2.1⟩, q2.2)
theorem Bcb {l : List Leaf} {q : DSub × List Leaf} (h : Aea l = some q) : l = Eb 9 q.1 ++ q.2 := by
 unfold Aea at h
 obtain ⟨q0, h0, h⟩ := Af h
 obtain ⟨q1, h1, h⟩ := Af h
 obtain ⟨q2, h2, h⟩ := Af h
 cases h
 rw [Dz h0, Yj h1, As9 h2]
 rfl
def Ad3 (l : List Leaf) : Option (DHub × List Leaf) := Option.bind (qB l) fun q0 => Option.bind (qL (.b 7) q0.2) fun q1 => Option.bind (qL (.b 9) q1.2) fun q2 => Option.bind (qI q2.2) fun q3 => some (⟨q0.1, q1.1, q2.1, q3.1⟩, q3.2)
theorem Bb4 {l : List Leaf} {q : DHub × List Leaf} (h : Ad3 l = some q) : l = Eb 10 q.1 ++ q.2 := by
 unfold Ad3 at h
 obtain ⟨q0, h0, h⟩ := Af h
 obtain ⟨q1, h1, h⟩ := Af h
 obtain ⟨q2, h2, h⟩ := Af h
 obtain ⟨q3, h3, h⟩ := Af h
 cases h
 rw [Aee h0, E8 h1, E8 h2, Dz h3]
 rfl
def Adz (l : List Leaf) : Option (DAnswer × List Leaf) := Option.bind (qI l) fun q0 => Option.bind (qI q0.2) fun q1 => Option.bind (qL (.b 0) q1.2) fun q2 => Option.bind (qL (.b 5) q2.2) fun q3 => some (⟨q0.1, q1.1, q2.1, q3.1⟩, q3.2)
theorem Bb0 {l : List Leaf} {q : DAnswer × List Leaf} (h : Adz l = some q) : l = Eb 11 q.1 ++ q.2 := by
 unfold Adz at h
 obtain ⟨q0, h0, h⟩ := Af h
 obtain ⟨q1, h1, h⟩ := Af h
 obtain ⟨q2, h2, h⟩ := Af h
 obtain ⟨q3, h3, h⟩ := Af h
 cases h
 rw [Dz h0, Dz h1, E8 h2, E8 h3]
 rfl
def Ad0 (l : List Leaf) : Option (DCall × List Leaf) := Option.bind (qI l) fun q0 => Option.bind (qT q0.2) fun q1 => Option.bind (qI q1.2) fun q2 => Option.bind (qI q2.2) fun q3 => Option.bind (qI q3.2) fun q4 => Option.bind (qL (.b 4) q4.2) fun q5 => Option.bind (qL (.b 0) q5.2) fun q6 => some (⟨q0.1, q1.1, q2.1, q3.1, q4.1, q5.1, q6.1⟩, q6.2)
theorem Bb1 {l : List Leaf} {q : DCall × List Leaf} (h : Ad0 l = some q) : l = Eb 12 q.1 ++ q.2 := by
 unfold Ad0 at h
 obtain ⟨q0, h0, h⟩ := Af h
 obtain ⟨q1, h1, h⟩ := Af h
 obtain ⟨q2, h2, h⟩ := Af h
 obtain ⟨q3, h3, h⟩ := Af h
 obtain ⟨q4, h4, h⟩ := Af h
 obtain ⟨q5, h5, h⟩ := Af h
 obtain ⟨q6, h6, h⟩ := Af h
 cases h
 rw [Dz h0, Yj h1, Dz h2, Dz h3, Dz h4, E8 h5, E8 h6]
 rfl
def Ad4 (l : List Leaf) : Option (DL01Cur × List Leaf) := Option.bind (qL (.b 3) l) fun q0 => Option.bind (qI q0.2) fun q1 => Option.bind (qI q1.2) fun q2 => some (⟨q0.1, q1.1, q2.1⟩, q2.2)
theorem Bb5 {l : List Leaf} {q : DL01Cur × List Leaf} (h : Ad4 l = some q) : l = Eb 13 q.1 ++ q.2 := by
 unfold Ad4 at h
 obtain ⟨q0, h0, h⟩ := Af h
 obtain ⟨q1, h1, h⟩ := Af h
 obtain ⟨q2, h2, h⟩ := Af h
 cases h
 rw [E8 h0, Dz h1, Dz h2]
 rfl
def Ad8 (l : List Leaf) : Option (DRest × List Leaf) := Option.bind (qL (.b 4) l) fun q0 => some (⟨q0.1⟩, q0.2)
theorem Bb9 {l : List Leaf} {q : DRest × List Leaf} (h : Ad8 l = some q) : l = Eb 14 q.1 ++ q.2 := by
 unfold Ad8 at h
 obtain ⟨q0, h0, h⟩ := Af h
 cases h
 rw [E8 h0]
 rfl
def Ad5 (l : List Leaf) : Option (DL02B × List Leaf) := Option.bind (qL (.b 4) l) fun q0 => Option.bind (qL (.b 0) q0.2) fun q1 => Option.bind (qI q1.2) fun q2 => some (⟨q0.1, q1.1, q2.1⟩, q2.2)
theorem Bb6 {l : List Leaf} {q : DL02B × List Leaf} (h : Ad5 l = some q) : l = Eb 15 q.1 ++ q.2 := by
 unfold Ad5 at h
 obtain ⟨q0, h0, h⟩ := Af h
 obtain ⟨q1, h1, h⟩ := Af h
 obtain ⟨q2, h2, h⟩ := Af h
 cases h
 rw [E8 h0, E8 h1, Dz h2]
 rfl
def Ad6 (l : List Leaf) : Option (DL04Cur × List Leaf) := Option.bind (qL (.b 4) l) fun q0 => Option.bind (qI q0.2) fun q1 => Option.bind (qI q1.2) fun q2 => some (⟨q0.1, q1.1, q2.1⟩, q2.2)
theorem Bb7 {l : List Leaf} {q : DL04Cur × List Leaf} (h : Ad6 l = some q) : l = Eb 16 q.1 ++ q.2 := by
 unfold Ad6 at h
 obtain ⟨q0, h0, h⟩ := Af h
 obtain ⟨q1, h1, h⟩ := Af h
 obtain ⟨q2, h2, h⟩ := Af h
 cases h
 rw [E8 h0, Dz h1, Dz h2]
 rfl
def Ath : (n : Nat) -> List Leaf -> Option (Ka n × List Leaf)
 | 0 => qI
 | 1 => qB
 | 2 => qT
 | 3 => qY
 | 4 => Ad7
 | 5 => Ad2
 | 6 => Ad9
 | 7 => Ad1
 | 8 => Yb
 | 9 => Aea
 | 10 => Ad3
 | 11 => Adz
 | 12 => Ad0
 | 13 => Ad4
 | 14 => Ad8
 | 15 => Ad5
 | 16 => Ad6
 | _ + 17 => fun l => some ((), l)
def prs : (t : Ty) -> List Leaf -> Option (Ax t × List Leaf)
 | .b n => Ath n
 | .sl e => qL e
theorem Bcg (n : Nat) {l : List Leaf} {q : Ka n × List Leaf} (h : Ath n l = some q) : l = Eb n q.1 ++ q.2 := match n with
 | 0 => Dz h
 | 1 => Aee h
 | 2 => Yj h
 | 3 => Bco h
 | 4 => Bb8 h
 | 5 => Bb3 h
 | 6 => Bca h
 | 7 => Bb2 h
 | 8 => As9 h
 | 9 => Bcb h
 | 10 => Bb4 h
 | 11 => Bb0 h
 | 12 => Bb1 h
 | 13 => Bb5 h
 | 14 => Bb9 h
 | 15 => Bb6 h
 | 16 => Bb7 h
 | _ + 17 => by cases h; rfl
theorem Bch : ∀ (t : Ty) {l : List Leaf} {q : Ax t × List Leaf}, prs t l = some q -> l = Ay t q.1 ++ q.2
 | .b n, _, _, h => Bcg n h
 | .sl _, _, _, h => E8 h
def mk (t : Ty) (l : List Leaf) : Option (Ax t) := match prs t l with
 | some (x, []) => some x
 | _ => none
theorem D5 {t : Ty} {l : List Leaf} {x : Ax t} (h : mk t l = some x) : Ay t x = l := by
 unfold mk at h
 split at h
 ·rename_i y hy
  cases h
  have := Bch t hy
  simpa using this.symm
 ·cases h
theorem A1i (n : Nat) (x : Ka n) : fTB n x = (Eb n x).map Leaf.ce := match n with
 | 0 => rfl
 | 1 => rfl
 | 2 => rfl
 | 3 => rfl
 | 4 => rfl
 | 5 => rfl
 | 6 => rfl
 | 7 => rfl
 | 8 => rfl
 | 9 => rfl
 | 10 => rfl
 | 11 => rfl
 | 12 => rfl
 | 13 => rfl
 | 14 => rfl
 | 15 => rfl
 | 16 => rfl
 | _ + 17 => rfl
theorem Dc : ∀ (t : Ty) (x : Ax t), fD t x = (Ay t x).map Leaf.ce
 | .b n, x => A1i n x
 | .sl _, _ => rfl
theorem Bhk (n : Nat) (x : Ka n) : (Eb n x).length = szQ n := match n with
 | 0 => rfl
 | 1 => rfl
 | 2 => rfl
 | 3 => rfl
 | 4 => rfl
 | 5 => rfl
 | 6 => rfl
 | 7 => rfl
 | 8 => rfl
 | 9 => rfl
 | 10 => rfl
 | 11 => rfl
 | 12 => rfl
 | 13 => rfl
 | 14 => rfl
 | 15 => rfl
 | 16 => rfl
 | _ + 17 => rfl
theorem Fm : ∀ (t : Ty) (x : Ax t), (Ay t x).length = sz t
 | .b n, x => Bhk n x
 | .sl _, _ => rfl
theorem Ba2 (n : Nat) (x : Ka n) : (Eb n x).map Leaf.ty = lvB n := match n with
 | 0 => rfl
 | 1 => rfl
 | 2 => rfl
 | 3 => rfl
 | 4 => rfl
 | 5 => rfl
 | 6 => rfl
 | 7 => rfl
 | 8 => rfl
 | 9 => rfl
 | 10 => rfl
 | 11 => rfl
 | 12 => rfl
 | 13 => rfl
 | 14 => rfl
 | 15 => rfl
 | 16 => rfl
 | _ + 17 => rfl
theorem Asb : ∀ (t : Ty) (x : Ax t), (Ay t x).map Leaf.ty = D4 t
 | .b n, x => Ba2 n x
 | .sl _, _ => rfl
theorem C1 (t : Ty) (x : Ax t) : (fD t x).length = sz t := by rw [Dc, List.length_map, Fm]
def Avt : List (Nat × TI) := [
 (2, ⟨.int .i64, 1, 8, [.i .i64 0], some (.b 0)⟩),
 (3, ⟨.int .i64, 1, 8, [.i .i64 0], some (.b 0)⟩),
 (4, ⟨.bool, 1, 1, [.b false], some (.b 1)⟩),
 (5, ⟨.int .u8, 1, 1, [.y 0], some (.b 3)⟩),
 (9, ⟨.str, 1, 16, [.s ByteArray.empty], some (.b 2)⟩),
 (12, ⟨.int .u64, 1, 8, [.i .u64 0], none⟩),
 (13, ⟨.struct [(0, 9), (1, 12)], 2, 24, [.s ByteArray.empty, .i .u64 0], none⟩),
 (21, ⟨.int .i32, 1, 4, [.i .i32 0], none⟩),
 (22, ⟨.slice 5, 1, 24, [.nil], some (.sl (.b 3))⟩),
 (23, ⟨.slice 43, 1, 24, [.nil], some (.sl (.b 7))⟩),
 (24, ⟨.slice 38, 1, 24, [.nil], some (.sl (.b 9))⟩),
 (25, ⟨.struct [(0, 4), (1, 23), (2, 24), (3, 3)], 4, 64, [.b false, .nil, .nil, .i .i64 0], none⟩),
 (26, ⟨.struct [(0, 4), (1, 23), (2, 24), (3, 3)], 4, 64, [.b false, .nil, .nil, .i .i64 0], some (.b 10)⟩),
 (28, ⟨.slice 45, 1, 24, [.nil], some (.sl (.b 11))⟩),
 (31, ⟨.slice 50, 1, 24, [.nil], some (.sl (.b 12))⟩),
 (34, ⟨.slice 85, 1, 24, [.nil], some (.sl (.b 5))⟩),
 (35, ⟨.struct [(0, 3), (1, 3), (2, 4), (3, 34)], 4, 48, [.i .i64 0, .i .i64 0, .b false, .nil], none⟩),
 (36, ⟨.struct [(0, 3), (1, 3), (2, 4), (3, 34)], 4, 48, [.i .i64 0, .i .i64 0, .b false, .nil], some (.b 8)⟩),
 (37, ⟨.struct [(0, 3), (1, 9), (2, 36)], 6, 72, [.i .i64 0, .s ByteArray.empty, .i .i64 0, .i .i64 0, .b false, .nil], none⟩),
 (38, ⟨.struct [(0, 3), (1, 9), (2, 36)], 6, 72, [.i .i64 0, .s ByteArray.empty, .i .i64 0, .i .i64 0, .b false, .nil], some (.b 9)⟩),
 (40, ⟨.slice 3, 1, 24, [.nil], some (.sl (.b 0))⟩),
 (41, ⟨.slice 99, 1, 24, [.nil], some (.sl (.b 6))⟩),
 (42, ⟨.struct [(0, 9), (1, 3), (2, 40), (3, 34), (4, 41)], 5, 96, [.s ByteArray.empty, .i .i64 0, .nil, .nil, .nil], none⟩),
 (43, ⟨.struct [(0, 9), (1, 3), (2, 40), (3, 34), (4, 41)], 5, 96, [.s ByteArray.empty, .i .i64 0, .nil, .nil, .nil], some (.b 7)⟩),
 (44, ⟨.struct [(0, 3), (1, 3), (2, 40), (3, 34)], 4, 64, [.i .i64 0, .i .i64 0, .nil, .nil], none⟩),
 (45, ⟨.struct [(0, 3), (1, 3), (2, 40), (3, 34)], 4, 64, [.i .i64 0, .i .i64 0, .nil, .nil], some (.b 11)⟩),
 (48, ⟨.slice 127, 1, 24, [.nil], some (.sl (.b 4))⟩),
 (49, ⟨.struct [(0, 3), (1, 9), (2, 3), (3, 3), (4, 3), (5, 48), (6, 40)], 7, 96, [.i .i64 0, .s ByteArray.empty, .i .i64 0, .i .i64 0, .i .i64 0, .nil, .nil], none⟩),
 (50, ⟨.struct [(0, 3), (1, 9), (2, 3), (3, 3), (4, 3), (5, 48), (6, 40)], 7, 96, [.i .i64 0, .s ByteArray.empty, .i .i64 0, .i .i64 0, .i .i64 0, .nil, .nil], some (.b 12)⟩),
 (63, ⟨.struct [(0, 22), (1, 3), (2, 3)], 3, 40, [.nil, .i .i64 0, .i .i64 0], none⟩),
 (64, ⟨.struct [(0, 22), (1, 3), (2, 3)], 3, 40, [.nil, .i .i64 0, .i .i64 0], some (.b 13)⟩),
 (82, ⟨.slice 48, 1, 24, [.nil], some (.sl (.sl (.b 4)))⟩),
 (84, ⟨.struct [(0, 3), (1, 3), (2, 48)], 3, 40, [.i .i64 0, .i .i64 0, .nil], none⟩),
 (85, ⟨.struct [(0, 3), (1, 3), (2, 48)], 3, 40, [.i .i64 0, .i .i64 0, .nil], some (.b 5)⟩),
 (98, ⟨.struct [(0, 3), (1, 3), (2, 3)], 3, 24, [.i .i64 0, .i .i64 0, .i .i64 0], none⟩),
 (99, ⟨.struct [(0, 3), (1, 3), (2, 3)], 3, 24, [.i .i64 0, .i .i64 0, .i .i64 0], some (.b 6)⟩),
 (126, ⟨.struct [(0, 3), (1, 3), (2, 40)], 3, 40, [.i .i64 0, .i .i64 0, .nil], none⟩),
 (127, ⟨.struct [(0, 3), (1, 3), (2, 40)], 3, 40, [.i .i64 0, .i .i64 0, .nil], some (.b 4)⟩),
 (141, ⟨.int .u64, 1, 8, [.i .u64 0], none⟩),
 (143, ⟨.slice 9, 1, 24, [.nil], some (.sl (.b 2))⟩),
 (168, ⟨.struct [(0, 48)], 1, 24, [.nil], none⟩),
 (169, ⟨.struct [(0, 48)], 1, 24, [.nil], some (.b 14)⟩),
 (173, ⟨.struct [(0, 48), (1, 40), (2, 3)], 3, 56, [.nil, .nil, .i .i64 0], none⟩),
 (174, ⟨.struct [(0, 48), (1, 40), (2, 3)], 3, 56, [.nil, .nil, .i .i64 0], some (.b 15)⟩),
 (180, ⟨.struct [(0, 48), (1, 3), (2, 3)], 3, 40, [.nil, .i .i64 0, .i .i64 0], none⟩),
 (181, ⟨.struct [(0, 48), (1, 3), (2, 3)], 3, 40, [.nil, .i .i64 0, .i .i64 0], some (.b 16)⟩),
 (192, ⟨.int .u32, 1, 4, [.i .u32 0], none⟩)]
def alw {α : Type} (p : α -> Prop) : List α -> Prop
 | [] => True
 | a :: l => p a /\ alw p l
theorem Bh0 : alw (fun p : Nat × TI => TIok Tryz.prog p.1 p.2) Avt := ⟨
 ⟨⟨_, u2, rfl⟩, ⟨_, sz2, rfl⟩⟩,
 ⟨⟨_, u3, rfl⟩, ⟨_, sz3, rfl⟩⟩,
 ⟨⟨_, u4, rfl⟩, ⟨_, sz4, rfl⟩⟩,
 ⟨⟨_, u5, rfl⟩, ⟨_, sz5, rfl⟩⟩,
 ⟨⟨_, u9, rfl⟩, ⟨_, sz9, rfl⟩⟩,
 ⟨⟨_, u12, rfl⟩, ⟨_, Bgb, rfl⟩⟩,
 ⟨⟨_, u13, ⟨_, rfl, rfl⟩⟩, ⟨_, Bge, rfl⟩⟩,
 ⟨⟨_, u21, rfl⟩, ⟨_, Bgp, rfl⟩⟩,
 ⟨⟨_, u22, rfl⟩, ⟨_, Bgq, rfl⟩⟩,
 ⟨⟨_, u23, rfl⟩, ⟨_, Bgr, rfl⟩⟩,
 ⟨⟨_, u24, rfl⟩, ⟨_, Bgs, rfl⟩⟩,
 ⟨⟨_, u25, ⟨_, rfl, rfl⟩⟩, ⟨_, Bgt, rfl⟩⟩,
 ⟨⟨_, u26, ⟨_, rfl, rfl⟩⟩, ⟨_, Bgu, rfl⟩⟩,
 ⟨⟨_, u28, rfl⟩, ⟨_, Bgv, rfl⟩⟩,
 ⟨⟨_, u31, rfl⟩, ⟨_, Bgx, rfl⟩⟩,
 ⟨⟨_, u34, rfl⟩, ⟨_, Bgy, rfl⟩⟩,
 ⟨⟨_, u35, ⟨_, rfl, rfl⟩⟩, ⟨_, Bgz, rfl⟩⟩,
 ⟨⟨_, u36, ⟨_, rfl, rfl⟩⟩, ⟨_, Bg0, rfl⟩⟩,
 ⟨⟨_, u37, ⟨_, rfl, rfl⟩⟩, ⟨_, Bg1, rfl⟩⟩,
 ⟨⟨_, u38, ⟨_, rfl, rfl⟩⟩, ⟨_, Bg2, rfl⟩⟩,
 ⟨⟨_, u40, rfl⟩, ⟨_, Bg4, rfl⟩⟩,
 ⟨⟨_, u41, rfl⟩, ⟨_, Bg5, rfl⟩⟩,
 ⟨⟨_, u42, ⟨_, rfl, rfl⟩⟩, ⟨_, Bg6, rfl⟩⟩,
 ⟨⟨_, u43, ⟨_, rfl, rfl⟩⟩, ⟨_, Avh, rfl⟩⟩,
 ⟨⟨_, u44, ⟨_, rfl, rfl⟩⟩, ⟨_, Bg7, rfl⟩⟩,
 ⟨⟨_, u45, ⟨_, rfl, rfl⟩⟩, ⟨_, Bg8, rfl⟩⟩,
 ⟨⟨_, u48, rfl⟩, ⟨_, Bg9, rfl⟩⟩,
 ⟨⟨_, u49, ⟨_, rfl, rfl⟩⟩, ⟨_, Bha, rfl⟩⟩,
 ⟨⟨_, u50, ⟨_, rfl, rfl⟩⟩, ⟨_, Bhc, rfl⟩⟩,
 ⟨⟨_, u63, ⟨_, rfl, rfl⟩⟩, ⟨_, Bhd, rfl⟩⟩,
 ⟨⟨_, u64, ⟨_, rfl, rfl⟩⟩, ⟨_, Bhe, rfl⟩⟩,
 ⟨⟨_, u82, rfl⟩, ⟨_, Bhf, rfl⟩⟩,
 ⟨⟨_, u84, ⟨_, rfl, rfl⟩⟩, ⟨_, Bhg, rfl⟩⟩,
 ⟨⟨_, u85, ⟨_, rfl, rfl⟩⟩, ⟨_, Bhh, rfl⟩⟩,
 ⟨⟨_, u98, ⟨_, rfl, rfl⟩⟩, ⟨_, Bhj, rfl⟩⟩,
 ⟨⟨_, u99, ⟨_, rfl, rfl⟩⟩, ⟨_, Avi, rfl⟩⟩,
 ⟨⟨_, Bh7, ⟨_, rfl, rfl⟩⟩, ⟨_, Bgc, rfl⟩⟩,
 ⟨⟨_, Bh8, ⟨_, rfl, rfl⟩⟩, ⟨_, Bgd, rfl⟩⟩,
 ⟨⟨_, Bia, rfl⟩, ⟨_, Bgf, rfl⟩⟩,
 ⟨⟨_, Bib, rfl⟩, ⟨_, Bgg, rfl⟩⟩,
 ⟨⟨_, Bic, ⟨_, rfl, rfl⟩⟩, ⟨_, Bgh, rfl⟩⟩,
 ⟨⟨_, Bid, ⟨_, rfl, rfl⟩⟩, ⟨_, Bgi, rfl⟩⟩,
 ⟨⟨_, Bie, ⟨_, rfl, rfl⟩⟩, ⟨_, Bgj, rfl⟩⟩,
 ⟨⟨_, Bif, ⟨_, rfl, rfl⟩⟩, ⟨_, Bgk, rfl⟩⟩,
 ⟨⟨_, Big, ⟨_, rfl, rfl⟩⟩, ⟨_, Bgl, rfl⟩⟩,
 ⟨⟨_, Bih, ⟨_, rfl, rfl⟩⟩, ⟨_, Bgm, rfl⟩⟩,
 ⟨⟨_, Bii, rfl⟩, ⟨_, Bgn, rfl⟩⟩, trivial⟩
def Xw : List (Nat × TI) -> Nat -> Option TI
 | [], _ => none
 | (k, v) :: r, t => bif Nat.beq k t then some v else Xw r t
def En (t : Nat) : Option TI := Xw Avt t
theorem Ar8 {p : Nat -> TI -> Prop} : ∀ {l : List (Nat × TI)}, alw (fun q => p q.1 q.2) l -> ∀ {t : Nat} {i : TI}, Xw l t = some i -> p t i
 | [], _, _, _, h => by cases h
 | (k, v) :: r, ⟨h0, h1⟩, t, i, h => by
  simp only [Xw] at h
  cases hb : Nat.beq k t with
  | true => rw [hb] at h; cases h; cases Nat.eq_of_beq_eq_true hb; exact h0
  | false => rw [hb] at h; exact Ar8 h1 h
theorem Ey {t : Nat} {i : TI} (h : En t = some i) : TIok Tryz.prog t i := Ar8 (p := fun t i => TIok Tryz.prog t i) Bh0 h
end
end Go.Proofs.YtipinmfmejccdaaGreat
