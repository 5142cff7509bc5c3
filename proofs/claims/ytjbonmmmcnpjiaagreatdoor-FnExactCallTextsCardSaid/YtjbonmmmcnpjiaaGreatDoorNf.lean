/- The verification layer, part F: guarded operations; lists of flat elements; more steps of a state. No condition. -/
import Derived.Test.YtjbonmmmcnpjiaaGreatDoorNd
namespace Go.Proofs.YtjbonmmmcnpjiaaGreatDoor
open Go.RowKit

section
variable {P : Program} {n : Nat} {ops : Array Oper} {l rest : List Oper} {Q : Post} {env : Env} {w w' : World} {r : List (Oper × Nat)} {ty : TypeId} {pos : String} {af : Array Edge}

theorem Runs.lose {o : Oper} {v : Value} {env0 : Env} (h : Runs P n env w o v w') (hc : Cov env0 env) : Runs P n env0 w o v w' := fun a ha => h a (ha.lose hc.sub)

def isB (b : Bool) : Value → Bool
  | .bool c => c == b
  | _ => false

theorem isB_no {b c : Bool} (h : c = !b) : isB b (.bool c) = false := by subst h; cases b <;> rfl
theorem or_t {a b : Bool} (h : a = true) : true = (a || b) := by rw [h]; rfl
theorem or_f {a b : Bool} (h : a = false) : b = (a || b) := by rw [h]; rfl
theorem and_t {a b : Bool} (h : a = true) : b = (a && b) := by rw [h]; rfl
theorem and_f {a b : Bool} (h : a = false) : false = (a && b) := by rw [h]; rfl

theorem wanted_yes {o : Oper} {a : Act} (ha : Has n a env) {j : Nat} {b c : Bool} (hg : gd ops env j = some (.bool c)) (hc : c = b) (ho : o.guard = some (j, b)) : Region.wanted o (yielded ops a.tmps) = true := by
  simp [Region.wanted, ho, yielded_of ha hg, hc]

theorem wanted_no {o : Oper} {a : Act} (ha : Has n a env) {j : Nat} {b : Bool} {u : Value} (hg : gd ops env j = some u) (hc : isB b u = false) (ho : o.guard = some (j, b)) : Region.wanted o (yielded ops a.tmps) = false := by
  have h1 : yielded ops a.tmps j ≠ some b := by
    unfold gd at hg
    unfold yielded
    cases hq : ops[j]? with
    | none => simp [hq] at hg
    | some p =>
      simp only [hq, Option.bind_some] at hg ⊢
      cases hd : p.dst with
      | none => simp [hd] at hg
      | some d =>
        simp only [hd, Option.bind_some] at hg ⊢
        rw [ha.at' d _ hg]
        cases u <;> first | (simp; done) | (simpa [isB] using hc)
  simpa [Region.wanted, ho] using h1

/-- A guarded operation that is carried out. -/
theorem gv {d : Nat} {op : Op} {j : Nat} {b c : Bool} {v : Value} (hg : gd ops env j = some (.bool c)) (hc : c = b) (hd : Nat.blt d n = true)
    (hr : Runs P n env w ⟨some d, op, ty, pos, af, some (j, b)⟩ v w')
    (h : WL P n ops rest Q ((d, v) :: env) w') : WL P n ops (⟨some d, op, ty, pos, af, some (j, b)⟩ :: rest) Q env w := wvg (by rw [hg, hc]) hd hr h

/-- A guarded operation that is passed over. -/
theorem gs {d : Nat} {op : Op} {j : Nat} {b : Bool} {u : Value} (hg : gd ops env j = some u) (hc : isB b u = false) (hd : Nat.blt d n = true)
    (h : WL P n ops rest Q ((d, undef) :: env) w) : WL P n ops (⟨some d, op, ty, pos, af, some (j, b)⟩ :: rest) Q env w := fun a ha => by
  unfold wpList
  rw [if_neg (by rw [wanted_no ha hg hc rfl]; exact Bool.false_ne_true)]
  exact h _ (ha.put hd undef)

theorem gc {d : Nat} {f : FuncId} {args : List Operand} {ats : Array TypeId} {vs : List Value} {K : Value → World → Prop} {j : Nat} {b c : Bool} (hg : gd ops env j = some (.bool c)) (hb : c = b) (hd : Nat.blt d n = true) (hv : evs env args = some vs) (hc : Ret P f vs w K)
    (h : ∀ v w', K v w' → WL P n ops rest Q ((d, v) :: env) w') : WL P n ops (⟨some d, .call { callee := .value (.func f), args := args.toArray, argTypes := ats }, ty, pos, af, some (j, b)⟩ :: rest) Q env w := w_callg (by rw [hg, hb]) hd hv hc h

theorem ogv {d : Nat} {op : Op} {v : Value} {j : Nat} {b c : Bool} (hg : gd ops env j = some (.bool c)) (hc : c = b) (hd : Nat.blt d n = true) (hr : ∀ w1, Rel w w1 → Runs P n env w1 ⟨some d, op, ty, pos, af, some (j, b)⟩ v w1)
    (h : WO P n ops Q r ((d, v) :: env) w) : WO P n ops Q ((⟨some d, op, ty, pos, af, some (j, b)⟩, 0) :: r) env w := ovg (by rw [hg, hc]) hd hr h

theorem ogs {d : Nat} {op : Op} {j : Nat} {b : Bool} {u : Value} (hg : gd ops env j = some u) (hc : isB b u = false) (hd : Nat.blt d n = true)
    (h : WO P n ops Q r ((d, undef) :: env) w) : WO P n ops Q ((⟨some d, op, ty, pos, af, some (j, b)⟩, 0) :: r) env w := fun _ ha =>
  ⟨undef, .inr ⟨wanted_no ha hg hc rfl, rfl⟩, h _ (ha.put hd undef)⟩

theorem og_call {d : Nat} {f : FuncId} {args : List Operand} {ats : Array TypeId} {vs : List Value} {K : World → Value → World → Prop} {j : Nat} {b c : Bool} (hg : gd ops env j = some (.bool c)) (hb : c = b) (hd : Nat.blt d n = true) (hv : evs env args = some vs) (hc : ∀ w1, Rel w w1 → Ret P f vs w1 (K w1))
    (h : ∀ w1, Rel w w1 → ∀ v w', K w1 v w' → WO P n ops Q r ((d, v) :: env) w') : WO P n ops Q ((⟨some d, .call { callee := .value (.func f), args := args.toArray, argTypes := ats }, ty, pos, af, some (j, b)⟩, 2) :: r) env w := fun _ ha =>
  .inl ⟨by subst hb; simp [Region.wanted, yielded_of ha hg], fun w1 h1 => call_wp ha hv (hc w1 h1) fun v w' hk => ⟨.inl rfl, v, rfl, h w1 h1 v w' hk _ (ha.put hd v)⟩⟩

theorem og_forced {d : Nat} {f : FuncId} {args : List Operand} {ats : Array TypeId} {vs : List Value} {K : World → Value → World → Prop} {j : Nat} {b c : Bool} (hg : gd ops env j = some (.bool c)) (hb : c = b) (hd : Nat.blt d n = true) (hv : evs env args = some vs) (hc : ∀ w1, Rel w w1 → Ret P f vs w1 (K w1))
    (h : ∀ w1, Rel w w1 → ∀ v w', K w1 v w' → Rel w1 w' ∧ WO P n ops Q r ((d, v) :: env) w') : WO P n ops Q ((⟨some d, .call { callee := .value (.func f), args := args.toArray, argTypes := ats }, ty, pos, af, some (j, b)⟩, 1) :: r) env w := fun _ ha =>
  .inl ⟨by subst hb; simp [Region.wanted, yielded_of ha hg], fun w1 h1 => call_wp ha hv (hc w1 h1) fun v w' hk => ⟨.inr (h w1 h1 v w' hk).1, v, rfl, (h w1 h1 v w' hk).2 _ (ha.put hd v)⟩⟩

theorem ogs1 {d f : Nat} {op : Op} {j : Nat} {b : Bool} {u : Value} (hg : gd ops env j = some u) (hc : isB b u = false) (hd : Nat.blt d n = true)
    (h : ∀ w1, Rel w w1 → WO P n ops Q r ((d, undef) :: env) w1) : WO P n ops Q ((⟨some d, op, ty, pos, af, some (j, b)⟩, f + 1) :: r) env w := fun _ ha =>
  .inr ⟨wanted_no ha hg hc rfl, fun w1 h1 => h w1 h1 _ (ha.put hd undef)⟩

theorem ogc {d : Nat} {f : FuncId} {args : List Operand} {ats : Array TypeId} {vs : List Value} {v : Value} {j : Nat} {b c : Bool} (hg : gd ops env j = some (.bool c)) (hb : c = b) (hd : Nat.blt d n = true) (hv : evs env args = some vs) (hc : ∀ w1, Rel w w1 → Ret P f vs w1 fun u w' => u = v ∧ Rel w1 w')
    (h : WO P n ops Q r ((d, v) :: env) w) : WO P n ops Q ((⟨some d, .call { callee := .value (.func f), args := args.toArray, argTypes := ats }, ty, pos, af, some (j, b)⟩, 0) :: r) env w := ocg (by rw [hg, hb]) hd hv hc h

theorem p_t {d : Option Tmp} {g : Option (Nat × Bool)} {c x y : Operand} {v : Value} {t : Bool} (hc : ev env c = some (.bool t)) (ht : t = true) (hx : ev env x = some v) : Runs P n env w ⟨d, .pick c x y, ty, pos, af, g⟩ v w := r_pick_t (by rw [hc, ht]) hx
theorem p_f {d : Option Tmp} {g : Option (Nat × Bool)} {c x y : Operand} {v : Value} {t : Bool} (hc : ev env c = some (.bool t)) (ht : t = false) (hy : ev env y = some v) : Runs P n env w ⟨d, .pick c x y, ty, pos, af, g⟩ v w := r_pick_f (by rw [hc, ht]) hy

theorem bcongr {x y : Bool} (h : x = y) : some (Value.bool x) = some (Value.bool y) := by rw [h]
theorem icongr {k : IntKind} {x y : Int} (h : x = y) : some (Value.int k x) = some (Value.int k y) := by rw [h]
theorem vcongr {x y : Value} (h : x = y) : some x = some y := by rw [h]

/-- Some operations first, with what they leave. -/
theorem wl_mid (k : Nat) {α : Type} (E : α → Env) (Φ : α → World → Prop) (h1 : WL P n ops (l.take k) (fun e env w' => e = .normal ∧ ∃ x, Cov env (E x) ∧ Φ x w') env w) (h2 : ∀ x w', Φ x w' → WL P n ops (l.drop k) Q (E x) w') : WL P n ops l Q env w := by
  intro a ha
  have h3 := h1 a ha
  have key : ∀ (l : List Oper) (k : Nat) (a : Act) (w : World) (Q' : Exit → Act → World → Prop), (∀ a w, Q' .normal a w → wpList P ops (lift n Q) (l.drop k) a w) → (∀ e a w, Q' e a w → e = .normal) → wpList P ops Q' (l.take k) a w → wpList P ops (lift n Q) l a w := by
    intro l
    induction l with
    | nil => intro k a w Q' hN hE h; simp only [List.take_nil, wpList] at h; simpa [wpList] using hN a w h
    | cons o l ih =>
      intro k a w Q' hN hE h
      cases k with
      | zero => simp only [List.take_zero, wpList] at h; simpa using hN a w h
      | succ k =>
        simp only [List.take_succ_cons, List.drop_succ_cons] at h hN
        unfold wpList at h ⊢
        split
        · rename_i hw
          rw [if_pos hw] at h
          rcases h with h | ⟨_, a0, w0, h⟩
          · refine .inl ?_
            unfold Oper.wp at *
            generalize (execOp a.eval o).run P w = rr at *
            have hno : ¬ LetsOut Q' := fun ⟨_, _, hq⟩ => by cases hE _ _ _ hq
            cases rr with
            | ok m w' =>
              cases m <;> simp only [Oper.upon] at h ⊢ <;>
                first
                  | exact ih k _ _ Q' hN hE h
                  | exact Calls.mono h (fun e w'' he => by
                      cases e with
                      | returned v => exact ih k _ _ Q' hN hE he
                      | panicked c => cases hE _ _ _ he
                      | outgrown => exact (hno he).elim)
                  | exact Rows.mono h (fun _ _ he => ih k _ _ Q' hN hE he)
            | halt x w' => cases x <;> simp only [Oper.upon] at h ⊢ <;> first | exact h.elim | cases hE _ _ _ h
          · cases hE _ _ _ h
        · rename_i hw
          rw [if_neg hw] at h
          exact ih k _ _ Q' hN hE h
  refine key l k a w _ (fun a' w' hq => ?_) (fun e a' w' hq => ?_) h3
  · obtain ⟨env', ha', _, x, hc, hΦ⟩ := hq
    exact h2 x w' hΦ a' (ha'.lose hc.sub)
  · obtain ⟨env', ha', he, _⟩ := hq
    exact he

theorem mid_nil {α : Type} {E : α → Env} {Φ : α → World → Prop} (x : α) (hc : Cov env (E x)) (hΦ : Φ x w) : WL P n ops [] (fun e env w' => e = .normal ∧ ∃ x, Cov env (E x) ∧ Φ x w') env w := wl_nil ⟨rfl, x, hc, hΦ⟩

/-- The same in a region that draws: the world is one of the later ones. -/
theorem wo_mid (k : Nat) (E : Env) (hq : ((r.take k).all fun p => Nat.beq p.2 0) = true) (h1 : WO P n ops (fun e env _ => e = .normal ∧ Cov env E) (r.take k) env w) (h2 : WO P n ops Q (r.drop k) E w) : WO P n ops Q r env w := by
  intro a ha
  have h3 := h1 a ha
  have key : ∀ (l : List (Oper × Nat)) (k : Nat) (a : Act) (w w1 : World) (QA QB : Act → World → Prop), Rel w w1 → (∀ w2, Rel w w2 → ∀ a w3, QB a w3 → wpO P ops QA (l.drop k) a w2) → ((l.take k).all fun p => Nat.beq p.2 0) = true → wpO P ops QB (l.take k) a w1 → wpO P ops QA l a w1 := by
    intro l
    induction l with
    | nil => intro k a w w1 QA QB hr hN _ h; simp only [List.take_nil, List.drop_nil, wpO] at h hN ⊢; exact fun w2 h2 => hN w1 hr a w1 (h w1 (Rel.refl w1)) w2 h2
    | cons o l ih =>
      intro k a w w1 QA QB hr hN hq h
      cases k with
      | zero => simp only [List.take_zero, List.drop_zero, wpO] at h hN; exact hN w1 hr a w1 (h w1 (Rel.refl w1))
      | succ k =>
        simp only [List.take_succ_cons, List.drop_succ_cons] at h hN hq
        obtain ⟨o, f⟩ := o
        cases f with
        | zero => obtain ⟨v, hy, hK⟩ := h; exact ⟨v, hy, ih k _ w w1 QA QB hr hN (by simpa using hq) hK⟩
        | succ f => simp at hq
  refine key r k a w w _ _ (Rel.refl w) (fun w2 h2' a' w3 hq => ?_) hq h3
  obtain ⟨env', ha', _, hc⟩ := hq
  have h4 := h2 a' (ha'.lose hc.sub)
  have up : ∀ (l : List (Oper × Nat)) (a : Act) (w w' : World) (QA : Act → World → Prop), Rel w w' → wpO P ops QA l a w → wpO P ops QA l a w' := by
    intro l
    induction l with
    | nil => intro a w w' QA hr h w1 h1; exact h w1 (hr.trans h1)
    | cons o l ih =>
      intro a w w' QA hr h
      obtain ⟨o, f⟩ := o
      cases f with
      | zero =>
        obtain ⟨v, hy, hK⟩ := h
        refine ⟨v, ?_, ih _ w w' QA hr hK⟩
        rcases hy with ⟨hw, hq⟩ | hy
        · exact .inl ⟨hw, fun w1 h1 => hq w1 (hr.trans h1)⟩
        · exact .inr hy
      | succ f =>
        rcases h with h | h
        · exact .inl ⟨h.1, fun w1 h1 => h.2 w1 (hr.trans h1)⟩
        · exact .inr ⟨h.1, fun w1 h1 => h.2 w1 (hr.trans h1)⟩
  exact up _ _ _ _ _ h2' h4

/-- The same where memory is made on the way. -/
theorem wo_midM {α : Type} (k : Nat) (E : α → Env) (Φ : α → World → Prop) (h1 : WO P n ops (fun e env w' => e = .normal ∧ ∃ x, Cov env (E x) ∧ Φ x w') (r.take k) env w) (h2 : ∀ x w', Φ x w' → WO P n ops Q (r.drop k) (E x) w') : WO P n ops Q r env w := by
  intro a ha
  have h3 := h1 a ha
  have key : ∀ (l : List (Oper × Nat)) (k : Nat) (a : Act) (w : World) (QA QB : Act → World → Prop), (∀ a w3, QB a w3 → wpO P ops QA (l.drop k) a w3) → wpO P ops QB (l.take k) a w → wpO P ops QA l a w := by
    intro l
    induction l with
    | nil => intro k a w QA QB hN h; simp only [List.take_nil, List.drop_nil] at h hN; exact hN a w (h w (Rel.refl w))
    | cons o l ih =>
      intro k a w QA QB hN h
      cases k with
      | zero => simp only [List.take_zero, List.drop_zero] at h hN; exact hN a w (h w (Rel.refl w))
      | succ k =>
        simp only [List.take_succ_cons, List.drop_succ_cons] at h hN
        obtain ⟨o, f⟩ := o
        cases f with
        | zero => obtain ⟨v, hy, hK⟩ := h; exact ⟨v, hy, ih k _ _ QA QB hN hK⟩
        | succ f =>
          rcases h with h | h
          · exact .inl ⟨h.1, fun w1 h1 => wp_weak (fun _ _ ⟨h2, v, h3, h4⟩ => ⟨h2, v, h3, ih k _ _ QA QB hN h4⟩) (h.2 w1 h1)⟩
          · exact .inr ⟨h.1, fun w1 h1 => ih k _ _ QA QB hN (h.2 w1 h1)⟩
  refine key r k a w _ _ (fun a' w3 hq => ?_) h3
  obtain ⟨env', ha', _, x, hc, hΦ⟩ := hq
  exact h2 x w3 hΦ a' (ha'.lose hc.sub)

theorem mid_onilM {α : Type} {E : α → Env} {Φ : α → World → Prop} (x : α) (hc : Cov env (E x)) (hΦ : ∀ w', Rel w w' → Φ x w') : WO P n ops (fun e env w' => e = .normal ∧ ∃ x, Cov env (E x) ∧ Φ x w') [] env w := o_nil fun w' h' => ⟨rfl, x, hc, hΦ w' h'⟩

theorem mid_onil {E : Env} (hc : Cov env E) : WO P n ops (fun e env _ => e = .normal ∧ Cov env E) [] env w := o_nil fun _ _ => ⟨rfl, hc⟩

end

end Go.Proofs.YtjbonmmmcnpjiaaGreatDoor
