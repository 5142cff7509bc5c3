/- The verification layer, part D: regions whose order is drawn, walked once in an order that a closed check allows. No condition. -/
import Derived.Test.YtjbonmmmcnpjiaaGreatDoorNc
namespace Go.Proofs.YtjbonmmmcnpjiaaGreatDoor
open Go.RowKit

section
variable {P : Program} {ops : Array Oper} {QA : Act → World → Prop}

def never : Exit → Act → World → Prop := fun _ _ _ => False

/-- Operation i in state 'a', and what follows; old blocks stay. -/
def opR (P : Program) (ops : Array Oper) (z : Bool) (i : Nat) (K : Act → World → Prop) (a : Act) (w : World) : Prop :=
  match ops[i]? with
  | none => False
  | some o => if Region.wanted o (yielded ops a.tmps) then o.wp P a w (fun a' w' => (z = true ∨ Rel w w') ∧ ∃ v, a' = a.put o.dst v ∧ K a' w') never else K (a.put o.dst undef) w

/-- Operation j comes ahead of operation i, by so many steps at most. -/
def aheadB (ops : Array Oper) : Nat → Nat → Nat → Bool
  | 0, _, _ => false
  | n + 1, i, j =>
    match ops[i]? with
    | none => false
    | some o => o.after.any fun e => Region.binds .any e && (Nat.beq e.on j || aheadB ops n e.on j)

/-- An operation that looks at its operand alone. -/
def isMv (o : Oper) : Bool := match o.op with
  | .move _ => true
  | _ => false
def mvB (ops : Array Oper) (j : Nat) : Bool := match ops[j]? with
  | some o => isMv o
  | none => false

/-- All operations that are listed come ahead of this one, but for those that look at no memory. -/
def allB (ops : Array Oper) (listed : Array Bool) (i : Nat) : Bool := (List.range ops.size).all fun j => !(listed.getD j false) || (mvB ops j || aheadB ops ops.size i j)

theorem allB_less {listed : Array Bool} {i j : Nat} (h : allB ops (listed.setIfInBounds i true) j = true) : allB ops listed j = true := by
  unfold allB at h ⊢
  refine List.all_eq_true.2 fun q hq => ?_
  have h1 := List.all_eq_true.1 h q hq
  by_cases hiq : i = q
  · subst hiq
    rcases Nat.lt_or_ge i listed.size with h' | h'
    · simp [h'] at h1; simp [h1]
    · simp [Array.getElem?_eq_none h']
  · rw [getD_set_ne false hiq] at h1; exact h1

/-- What is listed has all listed that comes ahead of it. -/
def Down (ops : Array Oper) (listed : Array Bool) : Prop := ∀ i o, listed.getD i false = true → ops[i]? = some o → ∀ e ∈ o.after, Region.binds .any e = true → listed.getD e.on false = true

theorem aheadB_listed {listed : Array Bool} (hd : Down ops listed) : ∀ {n i j : Nat} {o : Oper}, aheadB ops n i j = true → ops[i]? = some o → (∀ e ∈ o.after, Region.binds .any e = true → listed.getD e.on false = true) → listed.getD j false = true
  | 0, _, _, _, h, _, _ => by cases h
  | n + 1, i, j, o, h, hi, ha => by
    unfold aheadB at h
    simp only [hi] at h
    rw [Array.any_eq_true'] at h
    obtain ⟨e, he, h2⟩ := h
    simp only [Bool.and_eq_true, Bool.or_eq_true] at h2
    have h3 := ha e he h2.1
    rcases h2.2 with h4 | h4
    · rw [Nat.eq_of_beq_eq_true h4] at h3; exact h3
    · cases n with
      | zero => cases h4
      | succ n =>
        cases ho : ops[e.on]? with
        | none => unfold aheadB at h4; simp [ho] at h4
        | some o' => exact aheadB_listed hd h4 ho (hd _ _ h3 ho)

theorem allB_spec {i j : Nat} {o : Oper} {listed listed' : Array Bool} (hd : Down ops listed) (h : allB ops listed' i = true) (hi : ops[i]? = some o) (hj : j < ops.size) (hl : listed'.getD j false = true) (ha : ∀ e ∈ o.after, Region.binds .any e = true → listed.getD e.on false = true) : mvB ops j = true ∨ listed.getD j false = true := by
  unfold allB at h
  have h1 := List.all_eq_true.1 h j (List.mem_range.2 hj)
  rw [hl] at h1
  simp only [Bool.not_true, Bool.false_or, Bool.or_eq_true] at h1
  exact h1.imp id fun h1 => aheadB_listed hd h1 hi ha

theorem Down.set {listed : Array Bool} (hd : Down ops listed) {j : Nat} (hj : j ∈ Region.ready .any ops listed) : Down ops (listed.setIfInBounds j true) := fun i o hl hi e he hb => by
  have up : ∀ q, listed.getD q false = true → (listed.setIfInBounds j true).getD q false = true := fun q hq => by
    by_cases hjq : j = q
    · subst hjq
      have hlt : j < listed.size := by
        rcases Nat.lt_or_ge j listed.size with h' | h'
        · exact h'
        · simp [Array.getElem?_eq_none h'] at hq
      simp [hlt]
    · rw [getD_set_ne false hjq]; exact hq
  by_cases hji : j = i
  · subst hji
    obtain ⟨_, oj, hoj, hall⟩ := mem_ready.1 hj
    rw [hi] at hoj
    obtain rfl : o = oj := by simpa using hoj
    exact up _ (hall e he hb)
  · rw [getD_set_ne false hji] at hl
    exact up _ (hd i o hl hi e he hb)

theorem Down.init (n : Nat) : Down ops (Array.replicate n false) := fun i o hl => by
  rcases Nat.lt_or_ge i n with h' | h'
  · simp [h'] at hl
  · simp [h'] at hl

def wpR (P : Program) (ops : Array Oper) (QA : Act → World → Prop) : Nat → Array Bool → Act → World → Prop
  | 0, listed, a, w => Region.ready .any ops listed = [] ∧ ∀ w1, Rel w w1 → QA a w1
  | k + 1, listed, a, w => (Region.ready .any ops listed = [] → ∀ w1, Rel w w1 → QA a w1) ∧
      ∀ i ∈ Region.ready .any ops listed, ∀ w1, Rel w w1 → opR P ops (allB ops listed i) i (wpR P ops QA k (listed.setIfInBounds i true)) a w1

theorem wpR_rel : ∀ {k : Nat} {listed : Array Bool} {a : Act} {w w' : World}, wpR P ops QA k listed a w → Rel w w' → wpR P ops QA k listed a w'
  | 0, _, _, _, _, h, hr => ⟨h.1, fun w1 h1 => h.2 w1 (hr.trans h1)⟩
  | _ + 1, _, _, _, _, h, hr => ⟨fun h0 w1 h1 => h.1 h0 w1 (hr.trans h1), fun i hi w1 h1 => h.2 i hi w1 (hr.trans h1)⟩

theorem wp_weak {o : Oper} {a : Act} {w : World} {K K' : Act → World → Prop} {Q : Exit → Act → World → Prop} (h : ∀ a w, K a w → K' a w) (hh : o.wp P a w K never) : o.wp P a w K' Q := by
  unfold Oper.wp at *
  generalize (execOp a.eval o).run P w = r at *
  cases r with
  | ok m w' =>
    cases m <;> simp only [Oper.upon] at hh ⊢ <;>
      first
        | exact h _ _ hh
        | exact Calls.mono hh (fun e w'' he => by
            cases e with
            | returned v => exact h _ _ he
            | panicked c => exact (he : False).elim
            | outgrown => obtain ⟨_, _, he⟩ := he; exact (he : False).elim)
        | exact Rows.mono hh (fun _ _ he => h _ _ he)
  | halt x w' => cases x <;> simp only [Oper.upon] at hh ⊢ <;> exact (hh : False).elim

theorem opR_mono {z : Bool} {i : Nat} {a : Act} {w : World} {K K' : Act → World → Prop} (h : ∀ a w, K a w → K' a w) (hh : opR P ops z i K a w) : opR P ops z i K' a w := by
  unfold opR at *
  split
  · rename_i ho; simp only [ho] at hh
  · rename_i o ho
    simp only [ho] at hh
    split
    · rename_i hw
      simp only [hw, if_true] at hh
      exact wp_weak (fun _ _ ⟨h1, v, h2, h3⟩ => ⟨h1, v, h2, h _ _ h3⟩) hh
    · rename_i hw; simp only [hw] at hh; exact h _ _ hh

theorem wpAny_of_wpR {Q : Exit → Act → World → Prop} (hQ : ∀ a w, QA a w → Q .normal a w) : ∀ (k : Nat) (listed : Array Bool) (a : Act) (w : World), wpR P ops QA k listed a w → wpAny P .any ops Q k listed a w
  | 0, _, _, w, h => ⟨h.1, hQ _ _ (h.2 w (Rel.refl w))⟩
  | k + 1, listed, a, w, h => ⟨fun h0 => hQ _ _ (h.1 h0 w (Rel.refl w)), fun i hi => by
      have h1 := h.2 i hi w (Rel.refl w)
      unfold opR at h1
      unfold wpOp
      split
      · rename_i ho; simp only [ho] at h1
      · rename_i o ho
        simp only [ho] at h1
        split
        · rename_i hw
          simp only [hw, if_true] at h1
          exact .inl (wp_weak (fun _ _ ⟨_, _, _, h3⟩ => wpAny_of_wpR hQ k _ _ _ h3) h1)
        · rename_i hw; simp only [hw] at h1; exact wpAny_of_wpR hQ k _ _ _ h1⟩

/-- One value in every later world. -/
def quietR (P : Program) (o : Oper) (a : Act) (w : World) (v : Value) : Prop := ∀ w1, Rel w w1 → o.wp P a w1 (fun a' w' => Rel w1 w' ∧ a' = a.put o.dst v) never

def yieldsR (P : Program) (ops : Array Oper) (o : Oper) (a : Act) (w : World) (v : Value) : Prop :=
  (Region.wanted o (yielded ops a.tmps) = true ∧ quietR P o a w v) ∨ (Region.wanted o (yielded ops a.tmps) = false ∧ v = undef)

/-- Another operation's value laid before or behind. -/
theorem wp_put {o : Oper} {a : Act} {w : World} {x : Option Tmp} {v : Value} {K : Act → World → Prop} {R : World → Prop} (hs : ∀ cs b, o.op ≠ .select cs b) (h1 : ∀ d, x = some d → d ∉ o.looksAt ops)
    (h : o.wp P (a.put x v) w (fun a' w' => R w' ∧ ∃ u, a' = (a.put x v).put o.dst u ∧ K a' w') never) :
    o.wp P a w (fun a' w' => R w' ∧ ∃ u, a' = a.put o.dst u ∧ K ((a.put x v).put o.dst u) w') never := by
  unfold Oper.wp at *
  rw [execOp_put o hs a x v h1] at h
  generalize (execOp a.eval o).run P w = r at *
  cases r with
  | ok m w' =>
    cases m <;> simp only [Oper.upon] at h ⊢
    case value u => obtain ⟨h2, _, _, h4⟩ := h; exact ⟨h2, u, rfl, h4⟩
    case skip => obtain ⟨h2, _, _, h4⟩ := h; exact ⟨h2, undef, rfl, h4⟩
    case defer dd =>
      obtain ⟨h2, u', h3, h4⟩ := h
      have := congrArg (fun b : Act => b.defers.length) h3
      have hp : ∀ (b : Act) (y : Option Tmp) (u : Value), (b.put y u).defers = b.defers := fun b y u => by cases y <;> rfl
      simp [hp] at this
    case enter f args =>
      refine Calls.mono h fun e w'' he => ?_
      cases e with
      | returned u => obtain ⟨h2, _, _, h4⟩ := he; exact ⟨h2, u, rfl, h4⟩
      | panicked c => exact he
      | outgrown => exact he
    case row row args => exact Rows.mono h fun u _ ⟨h2, _, _, h4⟩ => ⟨h2, u, rfl, h4⟩
  | halt y w' => cases y <;> simp only [Oper.upon] at h ⊢ <;> exact h

theorem yieldsR_opR {z : Bool} {i : Nat} {o : Oper} {a : Act} {w w1 : World} {v : Value} {K : Act → World → Prop} (hi : ops[i]? = some o) (hy : yieldsR P ops o a w v) (hr : Rel w w1) (h : ∀ w', Rel w1 w' → K (a.put o.dst v) w') : opR P ops z i K a w1 := by
  unfold opR
  simp only [hi]
  rcases hy with ⟨hw, hq⟩ | ⟨hw, rfl⟩
  · simp only [hw, if_true]
    exact wp_weak (fun a' w' ⟨h1, h2⟩ => ⟨.inr h1, v, h2, h2 ▸ h w' h1⟩) (hq w1 hr)
  · simp only [hw, Bool.false_eq_true, if_false]
    exact h w1 (Rel.refl w1)

theorem quietR_put {o : Oper} {a : Act} {w w' : World} {x : Option Tmp} {u v : Value} (hs : ∀ cs b, o.op ≠ .select cs b) (h1 : ∀ d, x = some d → d ∉ o.looksAt ops) (hc : ∀ d, x = some d → o.dst ≠ some d)
    (h : quietR P o a w v) (hr : Rel w w') : quietR P o (a.put x u) w' v := fun w1 hw1 => by
  have h2 := h w1 (hr.trans hw1)
  unfold Oper.wp at *
  rw [execOp_put o hs a x u h1]
  generalize (execOp a.eval o).run P w1 = r at *
  have same : ∀ u', a.put o.dst u' = a.put o.dst v → (a.put x u).put o.dst u' = (a.put x u).put o.dst v := fun u' he => by
    rw [Act.put_comm a u u' hc, Act.put_comm a u v hc, he]
  cases r with
  | ok m w2 =>
    cases m <;> simp only [Oper.upon] at h2 ⊢
    case value u' => exact ⟨h2.1, same u' h2.2⟩
    case skip => exact ⟨h2.1, same undef h2.2⟩
    case defer dd =>
      have := congrArg (fun b : Act => b.defers.length) h2.2
      have hp : ∀ (b : Act) (y : Option Tmp) (u : Value), (b.put y u).defers = b.defers := fun b y u => by cases y <;> rfl
      simp [hp] at this
    case enter f args =>
      refine Calls.mono h2 fun e w'' he => ?_
      cases e with
      | returned u' => exact ⟨he.1, same u' he.2⟩
      | panicked c => exact he
      | outgrown => exact he
    case row row args => exact Rows.mono h2 fun u' w'' he => ⟨he.1, same u' he.2⟩
  | halt y w2 => cases y <;> simp only [Oper.upon] at h2 ⊢ <;> exact h2

theorem quietR_mv {o : Oper} {a : Act} {w w' : World} {v : Value} (hm : isMv o = true) (h : quietR P o a w v) : quietR P o a w' v := fun w1 _ => by
  have h2 := h w (Rel.refl w)
  unfold isMv at hm
  split at hm
  · rename_i x hx
    unfold Oper.wp at *
    have hr : ∀ w, (execOp a.eval o).run P w = .ok (.value (a.eval x)) w := fun w => by
      obtain ⟨d, op, ty, pos, af, g⟩ := o
      simp only at hx
      subst hx
      simp [execOp]
    rw [hr] at h2 ⊢
    exact ⟨Rel.refl _, h2.2⟩
  · cases hm

theorem wpR_first {i : Nat} {o : Oper} {v : Value} (hi : ops[i]? = some o) (hsel : ∀ (j : Nat) (o : Oper) cs b, ops[j]? = some o → o.op ≠ .select cs b) :
    ∀ (k : Nat) (listed : Array Bool) (a : Act) (w : World), Down ops listed →
      (∀ j oj, ops[j]? = some oj → j ≠ i → listed.getD j true = false → (∀ e ∈ oj.after, Region.binds .any e = true → e.on ≠ i) → o.apart ops oj = true) →
      i ∈ Region.ready .any ops listed → yieldsR P ops o a w v →
      wpR P ops QA k (listed.setIfInBounds i true) (a.put o.dst v) w → wpR P ops QA (k + 1) listed a w := by
  intro k
  induction k with
  | zero =>
    intro listed a w _ _ hr hy H
    refine ⟨fun h => (by rw [h] at hr; cases hr), fun j hj w1 h1 => ?_⟩
    by_cases hji : j = i
    · subst hji; exact yieldsR_opR hi hy h1 fun w' hw' => wpR_rel H (h1.trans hw')
    · have := ready_mono hj hji
      rw [H.1] at this
      cases this
  | succ k ih =>
    intro listed a w hd hfree hr hy H
    refine ⟨fun h => (by rw [h] at hr; cases hr), fun j hj w1 h1 => ?_⟩
    by_cases hji : j = i
    · subst hji; exact yieldsR_opR hi hy h1 fun w' hw' => wpR_rel H (h1.trans hw')
    · have h2 := H.2 j (ready_mono hj hji) w1 h1
      obtain ⟨hjun, oj, hoj, hall⟩ := mem_ready.1 hj
      have hnot : ∀ e ∈ oj.after, Region.binds .any e = true → e.on ≠ i := fun e he hb heq => by
        have h1 := hall e he hb
        have h0 := (mem_ready.1 hr).1
        rw [heq] at h1
        rcases Nat.lt_or_ge i listed.size with h' | h'
        · simp [h'] at h0 h1; rw [h0] at h1; cases h1
        · simp [Array.getElem?_eq_none h'] at h1
      have hap := hfree j oj hoj hji hjun hnot
      have hnl : allB ops (listed.setIfInBounds i true) j = true → isMv o = true := fun hl => by
        have h9 := (mem_ready.1 hr).1
        rcases Nat.lt_or_ge i listed.size with h' | h'
        · rcases allB_spec hd hl hoj ((Array.getElem?_eq_some_iff.1 hi).1) (by simp [h']) hall with h8 | h8
          · unfold mvB at h8; simpa only [hi] using h8
          · simp [h'] at h8 h9; rw [h9] at h8; cases h8
        · simp [Array.getElem?_eq_none h'] at h9
      obtain ⟨p1, p2, p3⟩ := Oper.apart_spec hap
      have hfree' : ∀ m om, ops[m]? = some om → m ≠ i → (listed.setIfInBounds j true).getD m true = false →
          (∀ e ∈ om.after, Region.binds .any e = true → e.on ≠ i) → o.apart ops om = true := fun m om hm hmi hun hno => by
        refine hfree m om hm hmi ?_ hno
        by_cases hjm : j = m
        · subst hjm; exact hjun
        · rw [getD_set_ne true hjm] at hun; exact hun
      have hsi := fun cs b => hsel i o cs b hi
      have hsj := fun cs b => hsel j oj cs b hoj
      have keep : ∀ u w2, (isMv o = true ∨ Rel w1 w2) → yieldsR P ops o (a.put oj.dst u) w2 v := fun u w2 h3 => by
        unfold yieldsR at *
        rw [wanted_put o a oj.dst u p3]
        rcases hy with ⟨hw, hq⟩ | hy
        · rcases h3 with h3 | h3
          · exact .inl ⟨hw, quietR_mv h3 (quietR_put hsi p3 (fun d hd => fun hd' => p2 d hd' hd) hq (Rel.refl w))⟩
          · exact .inl ⟨hw, quietR_put hsi p3 (fun d hd => fun hd' => p2 d hd' hd) hq (h1.trans h3)⟩
        · exact .inr hy
      have step : ∀ u w2, (isMv o = true ∨ Rel w1 w2) → wpR P ops QA k ((listed.setIfInBounds i true).setIfInBounds j true) ((a.put o.dst v).put oj.dst u) w2 → wpR P ops QA (k + 1) (listed.setIfInBounds j true) (a.put oj.dst u) w2 := fun u w2 h3 h4 => by
        refine ih (listed.setIfInBounds j true) _ _ (hd.set hj) hfree' (ready_mono hr (Ne.symm hji)) (keep u w2 h3) ?_
        rw [Array.setIfInBounds_comm _ _ hji, ← Act.put_comm a v u p2]
        exact h4
      unfold opR at h2 ⊢
      simp only [hoj] at h2 ⊢
      rw [wanted_put oj a o.dst v p1] at h2
      split
      · rename_i hw
        simp only [hw, if_true] at h2
        exact wp_weak (fun a' w' ⟨h3, u, h4, h5⟩ => ⟨h3.imp allB_less id, u, h4, h4 ▸ step u w' (h3.imp hnl id) h5⟩) (wp_put (R := fun w' => allB ops (listed.setIfInBounds i true) j = true ∨ Rel w1 w') hsj p1 h2)
      · rename_i hw
        simp only [hw] at h2
        exact step undef w1 (.inr (Rel.refl w1)) h2

/-- The walk in a chosen order. 0: an operation that only looks, and may come at any time; 1: one that nothing else may overtake, and that changes nothing old; 2: one that nothing else may overtake, and that comes behind all that was listed. -/
def wpO (P : Program) (ops : Array Oper) (QA : Act → World → Prop) : List (Oper × Nat) → Act → World → Prop
  | [], a, w => ∀ w1, Rel w w1 → QA a w1
  | (o, 0) :: r, a, w => ∃ v, yieldsR P ops o a w v ∧ wpO P ops QA r (a.put o.dst v) w
  | (o, f + 1) :: r, a, w => (Region.wanted o (yielded ops a.tmps) = true ∧ ∀ w1, Rel w w1 → o.wp P a w1 (fun a' w' => (Nat.beq f 1 = true ∨ Rel w1 w') ∧ ∃ v, a' = a.put o.dst v ∧ wpO P ops QA r a' w') never) ∨
      (Region.wanted o (yielded ops a.tmps) = false ∧ ∀ w1, Rel w w1 → wpO P ops QA r (a.put o.dst undef) w1)

def ordB (ops : Array Oper) : List (Nat × Nat) → Array Bool → Bool
  | [], listed => (Region.ready .any ops listed).isEmpty
  | (k, f) :: r, listed => (match f with
    | 0 => (Region.ready .any ops listed).contains k && Region.free .any ops listed k
    | f + 1 => Region.ready .any ops listed == [k] && (!Nat.beq f 1 || allB ops listed k)) && ordB ops r (listed.setIfInBounds k true)

theorem wpR_of_wpO (hs : Region.noSelect ops = true) : ∀ (ks : List (Nat × Nat)) (l : List (Oper × Nat)) (listed : Array Bool) (a : Act) (w : World), Down ops listed →
    ks.map (fun k => (ops[k.1]?.map fun o => (o, k.2))) = l.map some → ordB ops ks listed = true → wpO P ops QA l a w → wpR P ops QA ks.length listed a w
  | [], [], _, _, _, _, _, hB, h => ⟨by simpa [ordB] using hB, h⟩
  | [], _ :: _, _, _, _, _, he, _, _ => by simp at he
  | _ :: _, [], _, _, _, _, he, _, _ => by simp at he
  | (k, f) :: ks, (o, f') :: l, listed, a, w, hd, he, hB, h => by
    simp only [List.map_cons, List.cons.injEq] at he
    obtain ⟨h0, he⟩ := he
    have ho : ops[k]? = some o ∧ f = f' := by
      cases hk : ops[k]? with
      | none => simp [hk] at h0
      | some o' => simp [hk] at h0; exact ⟨by rw [h0.1], h0.2⟩
    obtain ⟨ho, rfl⟩ := ho
    simp only [ordB, Bool.and_eq_true] at hB
    obtain ⟨hB1, hB2⟩ := hB
    cases f with
    | zero =>
      simp only [Bool.and_eq_true] at hB1
      obtain ⟨v, hy, hK⟩ := h
      have hrd : k ∈ Region.ready .any ops listed := by simpa using hB1.1
      exact wpR_first ho (Region.noSelect_spec hs) ks.length listed a w hd (Region.free_spec ho hB1.2) hrd hy (wpR_of_wpO hs ks l _ _ _ (hd.set hrd) he hB2 hK)
    | succ f =>
      simp only [Bool.and_eq_true] at hB1
      have hr : Region.ready .any ops listed = [k] := by simpa using hB1.1
      refine ⟨(fun h' => by rw [hr] at h'; cases h'), fun i hi w1 h1 => ?_⟩
      rw [hr] at hi
      have hik : i = k := by simpa using hi
      subst hik
      unfold opR
      rcases h with ⟨hw, hK⟩ | ⟨hw, hK⟩
      rotate_left
      · simp only [ho, hw, Bool.false_eq_true, if_false]
        exact wpR_of_wpO hs ks l _ _ _ (hd.set (by rw [hr]; simp)) he hB2 (hK w1 h1)
      simp only [ho, hw, if_true]
      refine wp_weak (fun _ _ ⟨h2, v, h3, h4⟩ => ⟨?_, v, h3, wpR_of_wpO hs ks l _ _ _ (hd.set (by rw [hr]; simp)) he hB2 h4⟩) (hK w1 h1)
      rcases h2 with h2 | h2
      · left
        have := hB1.2
        rw [h2] at this
        simpa using this
      · exact .inr h2

end

section
variable {P : Program} {n : Nat} {ops : Array Oper} {Q : Post} {env : Env} {w : World} {r : List (Oper × Nat)} {ty : TypeId} {pos : String} {af : Array Edge}

def WO (P : Program) (n : Nat) (ops : Array Oper) (Q : Post) (l : List (Oper × Nat)) (env : Env) (w : World) : Prop :=
  ∀ a, Has n a env → wpO P ops (fun a w => lift n Q .normal a w) l a w

/-- The operations in a chosen order. -/
def ordOps (l : List Oper) : List (Nat × Nat) → List (Oper × Nat)
  | [] => []
  | k :: ks => match l[k.1]? with
    | some o => (o, k.2) :: ordOps l ks
    | none => ordOps l ks

theorem ordOps_eq (l : List Oper) : ∀ ks : List (Nat × Nat), (ks.all fun k => Nat.blt k.1 l.length) = true → ks.map (fun k => (l.toArray[k.1]?.map fun o => (o, k.2))) = (ordOps l ks).map some
  | [], _ => rfl
  | k :: ks, h => by
    simp only [List.all_cons, Bool.and_eq_true] at h
    have hk : k.1 < l.length := by simpa using h.1
    simp only [List.map_cons, ordOps, List.getElem?_toArray, List.getElem?_eq_getElem hk, Option.map_some]
    rw [← ordOps_eq l ks h.2]
    simp

theorem wc_draw {id : Nat} {l : List Oper} (ks : List (Nat × Nat)) (hm : P.follows .mixedOrders = true) (hs : Region.noSelect l.toArray = true) (hl : Nat.beq ks.length l.length = true)
    (hB : ordB l.toArray ks (Array.replicate l.length false) = true) (he : (ks.all fun k => Nat.blt k.1 l.length) = true) (h : WO P n l.toArray Q (ordOps l ks) env w) : WC P n (.region id l.toArray true) Q env w := fun a ha => by
  refine wp_region_any hm (wpAny_of_wpR (QA := fun a w => lift n Q .normal a w) (fun _ _ h => h) _ _ _ _ ?_)
  have hl' : ks.length = l.length := Nat.eq_of_beq_eq_true hl
  have h1 := wpR_of_wpO hs ks (ordOps l ks) (Array.replicate l.length false) a w (Down.init _) (ordOps_eq l ks he) hB (h a ha)
  rw [hl'] at h1
  simpa using wpR_rel h1 (Rel.drew (Rel.refl w))

theorem o_nil (h : ∀ w1, Rel w w1 → Q .normal env w1) : WO P n ops Q [] env w := fun _ ha w1 h1 => ⟨env, ha, h w1 h1⟩

theorem ov {d : Nat} {op : Op} {v : Value} (hd : Nat.blt d n = true) (hr : ∀ w1, Rel w w1 → Runs P n env w1 ⟨some d, op, ty, pos, af, none⟩ v w1)
    (h : WO P n ops Q r ((d, v) :: env) w) : WO P n ops Q ((⟨some d, op, ty, pos, af, none⟩, 0) :: r) env w := fun a ha =>
  ⟨v, .inl ⟨rfl, fun w1 h1 => by unfold Oper.wp; rw [hr w1 h1 a ha]; exact ⟨Rel.refl w1, rfl⟩⟩, h _ (ha.put hd v)⟩

theorem ovg {d : Nat} {op : Op} {v : Value} {j : Nat} {b : Bool} (hg : gd ops env j = some (.bool b)) (hd : Nat.blt d n = true) (hr : ∀ w1, Rel w w1 → Runs P n env w1 ⟨some d, op, ty, pos, af, some (j, b)⟩ v w1)
    (h : WO P n ops Q r ((d, v) :: env) w) : WO P n ops Q ((⟨some d, op, ty, pos, af, some (j, b)⟩, 0) :: r) env w := fun a ha =>
  ⟨v, .inl ⟨by simp [Region.wanted, yielded_of ha hg], fun w1 h1 => by unfold Oper.wp; rw [hr w1 h1 a ha]; exact ⟨Rel.refl w1, rfl⟩⟩, h _ (ha.put hd v)⟩

theorem osg {d : Nat} {op : Op} {j : Nat} {b c : Bool} (hg : gd ops env j = some (.bool c)) (hne : (c == b) = false) (hd : Nat.blt d n = true)
    (h : WO P n ops Q r ((d, undef) :: env) w) : WO P n ops Q ((⟨some d, op, ty, pos, af, some (j, b)⟩, 0) :: r) env w := fun a ha =>
  ⟨undef, .inr ⟨by simp [Region.wanted, yielded_of ha hg]; simpa using hne, rfl⟩, h _ (ha.put hd undef)⟩

theorem call_wp {d : Nat} {f : FuncId} {args : List Operand} {ats : Array TypeId} {vs : List Value} {K : Value → World → Prop} {gu : Option (Nat × Bool)} {a : Act} (ha : Has n a env) (hv : evs env args = some vs) (hc : Ret P f vs w K)
    {N : Act → World → Prop} (h : ∀ v w', K v w' → N (a.put (some d) v) w') : Oper.wp P ⟨some d, .call { callee := .value (.func f), args := args.toArray, argTypes := ats }, ty, pos, af, gu⟩ a w N never := by
  obtain ⟨⟨fn, hf, hnm, hb⟩, hcalls⟩ := hc
  have h1 : (execOp a.eval ⟨some d, .call { callee := .value (.func f), args := args.toArray, argTypes := ats }, ty, pos, af, gu⟩).run P w = .ok (.enter f vs.toArray) w := by
    simp only [execOp, resolve, Act.eval, Deferred.ofValue, invoke, callFunc, Sem.run_bind, Sem.run_pure, Result.andThen_ok, run_program, hf, hnm, hb, List.map_toArray, ha.evs _ _ hv]
    simp
  unfold Oper.wp
  rw [h1]
  exact hcalls.mono fun e w' ⟨v, he, hk⟩ => by subst he; exact h v w' hk

/-- A call whose result is one value, whatever has been laid in new memory meanwhile. -/
theorem oc {d : Nat} {f : FuncId} {args : List Operand} {ats : Array TypeId} {vs : List Value} {v : Value} (hd : Nat.blt d n = true) (hv : evs env args = some vs) (hc : ∀ w1, Rel w w1 → Ret P f vs w1 fun u w' => u = v ∧ Rel w1 w')
    (h : WO P n ops Q r ((d, v) :: env) w) : WO P n ops Q ((⟨some d, .call { callee := .value (.func f), args := args.toArray, argTypes := ats }, ty, pos, af, none⟩, 0) :: r) env w := fun a ha =>
  ⟨v, .inl ⟨rfl, fun w1 h1 => call_wp ha hv (hc w1 h1) fun u w' hk => ⟨hk.2, by rw [hk.1]⟩⟩, h _ (ha.put hd v)⟩

theorem ocg {d : Nat} {f : FuncId} {args : List Operand} {ats : Array TypeId} {vs : List Value} {v : Value} {j : Nat} {b : Bool} (hg : gd ops env j = some (.bool b)) (hd : Nat.blt d n = true) (hv : evs env args = some vs) (hc : ∀ w1, Rel w w1 → Ret P f vs w1 fun u w' => u = v ∧ Rel w1 w')
    (h : WO P n ops Q r ((d, v) :: env) w) : WO P n ops Q ((⟨some d, .call { callee := .value (.func f), args := args.toArray, argTypes := ats }, ty, pos, af, some (j, b)⟩, 0) :: r) env w := fun a ha =>
  ⟨v, .inl ⟨by simp [Region.wanted, yielded_of ha hg], fun w1 h1 => call_wp ha hv (hc w1 h1) fun u w' hk => ⟨hk.2, by rw [hk.1]⟩⟩, h _ (ha.put hd v)⟩

/-- A call that makes memory, at a place where nothing else may come up. -/
theorem o_forced {d : Nat} {f : FuncId} {args : List Operand} {ats : Array TypeId} {vs : List Value} {K : World → Value → World → Prop} (hd : Nat.blt d n = true) (hv : evs env args = some vs) (hc : ∀ w1, Rel w w1 → Ret P f vs w1 (K w1))
    (h : ∀ w1, Rel w w1 → ∀ v w', K w1 v w' → Rel w1 w' ∧ WO P n ops Q r ((d, v) :: env) w') : WO P n ops Q ((⟨some d, .call { callee := .value (.func f), args := args.toArray, argTypes := ats }, ty, pos, af, none⟩, 1) :: r) env w := fun _ ha =>
  .inl ⟨rfl, fun w1 h1 => call_wp ha hv (hc w1 h1) fun v w' hk => ⟨.inr (h w1 h1 v w' hk).1, v, rfl, (h w1 h1 v w' hk).2 _ (ha.put hd v)⟩⟩

/-- An operation runs, and what it yields. -/
def Ex (P : Program) (n : Nat) (env : Env) (w : World) (o : Oper) (K : Value → World → Prop) : Prop := ∃ v w', Runs P n env w o v w' ∧ K v w'
def ExU (P : Program) (n : Nat) (env : Env) (w : World) (o : Oper) (K : World → Prop) : Prop := ∃ w', RunsU P n env w o w' ∧ K w'

theorem w_ex {d : Nat} {op : Op} {l : List Oper} (hd : Nat.blt d n = true) (h : Ex P n env w ⟨some d, op, ty, pos, af, none⟩ fun v w' => WL P n ops l Q ((d, v) :: env) w') : WL P n ops (⟨some d, op, ty, pos, af, none⟩ :: l) Q env w := by
  obtain ⟨v, w', hr, hk⟩ := h
  exact wv hd hr hk
theorem w_exu {op : Op} {l : List Oper} (h : ExU P n env w ⟨none, op, ty, pos, af, none⟩ fun w' => WL P n ops l Q env w') : WL P n ops (⟨none, op, ty, pos, af, none⟩ :: l) Q env w := by
  obtain ⟨w', hr, hk⟩ := h
  exact wu hr hk

/-- An operation that writes, behind all that was listed. -/
theorem o_ex {d : Nat} {op : Op} (hd : Nat.blt d n = true) (h : ∀ w1, Rel w w1 → Ex P n env w1 ⟨some d, op, ty, pos, af, none⟩ fun v w' => WO P n ops Q r ((d, v) :: env) w') : WO P n ops Q ((⟨some d, op, ty, pos, af, none⟩, 2) :: r) env w := fun a ha =>
  .inl ⟨rfl, fun w1 h1 => by
    obtain ⟨v, w', hr, hk⟩ := h w1 h1
    unfold Oper.wp
    rw [hr a ha]
    exact ⟨.inl rfl, v, rfl, hk _ (ha.put hd v)⟩⟩
theorem o_exu {op : Op} (h : ∀ w1, Rel w w1 → ExU P n env w1 ⟨none, op, ty, pos, af, none⟩ fun w' => WO P n ops Q r env w') : WO P n ops Q ((⟨none, op, ty, pos, af, none⟩, 2) :: r) env w := fun a ha =>
  .inl ⟨rfl, fun w1 h1 => by
    obtain ⟨w', hr, hk⟩ := h w1 h1
    unfold Oper.wp
    rw [hr a ha]
    exact ⟨.inl rfl, undef, rfl, hk a ha⟩⟩

/-- An operation that makes new memory, where nothing else may come up. -/
theorem o_ex1 {d : Nat} {op : Op} (hd : Nat.blt d n = true) (h : ∀ w1, Rel w w1 → Ex P n env w1 ⟨some d, op, ty, pos, af, none⟩ fun v w' => Rel w1 w' ∧ WO P n ops Q r ((d, v) :: env) w') : WO P n ops Q ((⟨some d, op, ty, pos, af, none⟩, 1) :: r) env w := fun a ha =>
  .inl ⟨rfl, fun w1 h1 => by
    obtain ⟨v, w', hr, hk, hk2⟩ := h w1 h1
    unfold Oper.wp
    rw [hr a ha]
    exact ⟨.inr hk, v, rfl, hk2 _ (ha.put hd v)⟩⟩

/-- A call, behind all that was listed. -/
theorem o_call {d : Nat} {f : FuncId} {args : List Operand} {ats : Array TypeId} {vs : List Value} {K : World → Value → World → Prop} (hd : Nat.blt d n = true) (hv : evs env args = some vs) (hc : ∀ w1, Rel w w1 → Ret P f vs w1 (K w1))
    (h : ∀ w1, Rel w w1 → ∀ v w', K w1 v w' → WO P n ops Q r ((d, v) :: env) w') : WO P n ops Q ((⟨some d, .call { callee := .value (.func f), args := args.toArray, argTypes := ats }, ty, pos, af, none⟩, 2) :: r) env w := fun _ ha =>
  .inl ⟨rfl, fun w1 h1 => call_wp ha hv (hc w1 h1) fun v w' hk => ⟨.inl rfl, v, rfl, h w1 h1 v w' hk _ (ha.put hd v)⟩⟩

theorem wo_cut {l : List (Oper × Nat)} {env' : Env} (h : WO P n ops Q l env' w) (hc : Cov env env') : WO P n ops Q l env w := fun a ha => h a (ha.lose hc.sub)

end
end Go.Proofs.YtjbonmmmcnpjiaaGreatDoor
