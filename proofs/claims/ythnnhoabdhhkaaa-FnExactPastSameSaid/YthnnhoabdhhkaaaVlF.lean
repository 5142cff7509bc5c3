/- The verification layer, part F: guarded operations; lists of flat elements; more steps of a state. No condition. -/
import Derived.Test.YthnnhoabdhhkaaaVlE
namespace Go.Proofs.Ythnnhoabdhhkaaa
open Go.RowKit

section
variable {P : Program} {n : Nat} {ops : Array Oper} {l rest : List Oper} {Q : Post} {env : Env} {w w' : World} {r : List (Oper × Bool)} {ty : TypeId} {pos : String} {af : Array Edge}

theorem Runs.lose {o : Oper} {v : Value} {env0 : Env} (h : Runs P n env w o v w') (hc : Cov env0 env) : Runs P n env0 w o v w' := fun a ha => h a (ha.lose hc.sub)

def isB (b : Bool) : Value → Bool
  | .bool c => c == b
  | _ => false

theorem isB_no {b c : Bool} (h : c = !b) : isB b (.bool c) = false := by subst h; cases b <;> rfl
theorem or_t {a b : Bool} (h : a = true) : true = (a || b) := by rw [h]; rfl
theorem or_f {a b : Bool} (h : a = false) : b = (a || b) := by rw [h]; rfl
theorem and_t {a b : Bool} (h : a = true) : b = (a && b) := by rw [h]; rfl
theorem and_f {a b : Bool} (h : a = false) : false = (a && b) := by rw [h]; rfl

theorem wanted_yes {o : Oper} {a : Act} (ha : Has n a env) {j : Nat} {b c : Bool} (hg : gd ops env j = some (.bool c)) (hc : c = b) (ho : o.guard = some (j, b)) : Region.wanted o (yielded ops a.tmps) = true := by
  simp [Region.wanted, ho, yielded_of ha hg, hc]

theorem wanted_no {o : Oper} {a : Act} (ha : Has n a env) {j : Nat} {b : Bool} {u : Value} (hg : gd ops env j = some u) (hc : isB b u = false) (ho : o.guard = some (j, b)) : Region.wanted o (yielded ops a.tmps) = false := by
  have h1 : yielded ops a.tmps j ≠ some b := by
    unfold gd at hg
    unfold yielded
    cases hq : ops[j]? with
    | none => simp [hq] at hg
    | some p =>
      simp only [hq, Option.bind_some] at hg ⊢
      cases hd : p.dst with
      | none => simp [hd] at hg
      | some d =>
        simp only [hd, Option.bind_some] at hg ⊢
        rw [ha.at' d _ hg]
        cases u <;> first | (simp; done) | (simpa [isB] using hc)
  simpa [Region.wanted, ho] using h1

/-- A guarded operation that is carried out. -/
theorem gv {d : Nat} {op : Op} {j : Nat} {b c : Bool} {v : Value} (hg : gd ops env j = some (.bool c)) (hc : c = b) (hd : Nat.blt d n = true)
    (hr : Runs P n env w ⟨some d, op, ty, pos, af, some (j, b)⟩ v w')
    (h : WL P n ops rest Q ((d, v) :: env) w') : WL P n ops (⟨some d, op, ty, pos, af, some (j, b)⟩ :: rest) Q env w := wvg (by rw [hg, hc]) hd hr h

/-- A guarded operation that is passed over. -/
theorem gs {d : Nat} {op : Op} {j : Nat} {b : Bool} {u : Value} (hg : gd ops env j = some u) (hc : isB b u = false) (hd : Nat.blt d n = true)
    (h : WL P n ops rest Q ((d, undef) :: env) w) : WL P n ops (⟨some d, op, ty, pos, af, some (j, b)⟩ :: rest) Q env w := fun a ha => by
  unfold wpList
  rw [if_neg (by rw [wanted_no ha hg hc rfl]; exact Bool.false_ne_true)]
  exact h _ (ha.put hd undef)

theorem gc {d : Nat} {f : FuncId} {args : List Operand} {ats : Array TypeId} {vs : List Value} {K : Value → World → Prop} {j : Nat} {b c : Bool} (hg : gd ops env j = some (.bool c)) (hb : c = b) (hd : Nat.blt d n = true) (hv : evs env args = some vs) (hc : Ret P f vs w K)
    (h : ∀ v w', K v w' → WL P n ops rest Q ((d, v) :: env) w') : WL P n ops (⟨some d, .call { callee := .value (.func f), args := args.toArray, argTypes := ats }, ty, pos, af, some (j, b)⟩ :: rest) Q env w := w_callg (by rw [hg, hb]) hd hv hc h

theorem ogv {d : Nat} {op : Op} {v : Value} {j : Nat} {b c : Bool} (hg : gd ops env j = some (.bool c)) (hc : c = b) (hd : Nat.blt d n = true) (hr : ∀ w1, Rel w w1 → Runs P n env w1 ⟨some d, op, ty, pos, af, some (j, b)⟩ v w1)
    (h : WO P n ops Q r ((d, v) :: env) w) : WO P n ops Q ((⟨some d, op, ty, pos, af, some (j, b)⟩, false) :: r) env w := ovg (by rw [hg, hc]) hd hr h

theorem ogs {d : Nat} {op : Op} {j : Nat} {b : Bool} {u : Value} (hg : gd ops env j = some u) (hc : isB b u = false) (hd : Nat.blt d n = true)
    (h : WO P n ops Q r ((d, undef) :: env) w) : WO P n ops Q ((⟨some d, op, ty, pos, af, some (j, b)⟩, false) :: r) env w := fun _ ha =>
  ⟨undef, .inr ⟨wanted_no ha hg hc rfl, rfl⟩, h _ (ha.put hd undef)⟩

theorem ogc {d : Nat} {f : FuncId} {args : List Operand} {ats : Array TypeId} {vs : List Value} {v : Value} {j : Nat} {b c : Bool} (hg : gd ops env j = some (.bool c)) (hb : c = b) (hd : Nat.blt d n = true) (hv : evs env args = some vs) (hc : ∀ w1, Rel w w1 → Ret P f vs w1 fun u w' => u = v ∧ Rel w1 w')
    (h : WO P n ops Q r ((d, v) :: env) w) : WO P n ops Q ((⟨some d, .call { callee := .value (.func f), args := args.toArray, argTypes := ats }, ty, pos, af, some (j, b)⟩, false) :: r) env w := ocg (by rw [hg, hb]) hd hv hc h

theorem p_t {d : Option Tmp} {g : Option (Nat × Bool)} {c x y : Operand} {v : Value} {t : Bool} (hc : ev env c = some (.bool t)) (ht : t = true) (hx : ev env x = some v) : Runs P n env w ⟨d, .pick c x y, ty, pos, af, g⟩ v w := r_pick_t (by rw [hc, ht]) hx
theorem p_f {d : Option Tmp} {g : Option (Nat × Bool)} {c x y : Operand} {v : Value} {t : Bool} (hc : ev env c = some (.bool t)) (ht : t = false) (hy : ev env y = some v) : Runs P n env w ⟨d, .pick c x y, ty, pos, af, g⟩ v w := r_pick_f (by rw [hc, ht]) hy

theorem bcongr {x y : Bool} (h : x = y) : some (Value.bool x) = some (Value.bool y) := by rw [h]
theorem icongr {k : IntKind} {x y : Int} (h : x = y) : some (Value.int k x) = some (Value.int k y) := by rw [h]
theorem vcongr {x y : Value} (h : x = y) : some x = some y := by rw [h]

/-- Some operations first, with what they leave. -/
theorem wl_mid (k : Nat) {α : Type} (E : α → Env) (Φ : α → World → Prop) (h1 : WL P n ops (l.take k) (fun e env w' => e = .normal ∧ ∃ x, Cov env (E x) ∧ Φ x w') env w) (h2 : ∀ x w', Φ x w' → WL P n ops (l.drop k) Q (E x) w') : WL P n ops l Q env w := by
  intro a ha
  have h3 := h1 a ha
  have key : ∀ (l : List Oper) (k : Nat) (a : Act) (w : World) (Q' : Exit → Act → World → Prop), (∀ a w, Q' .normal a w → wpList P ops (lift n Q) (l.drop k) a w) → (∀ e a w, Q' e a w → e = .normal) → wpList P ops Q' (l.take k) a w → wpList P ops (lift n Q) l a w := by
    intro l
    induction l with
    | nil => intro k a w Q' hN hE h; simp only [List.take_nil, wpList] at h; simpa [wpList] using hN a w h
    | cons o l ih =>
      intro k a w Q' hN hE h
      cases k with
      | zero => simp only [List.take_zero, wpList] at h; simpa using hN a w h
      | succ k =>
        simp only [List.take_succ_cons, List.drop_succ_cons] at h hN
        unfold wpList at h ⊢
        split
        · rename_i hw
          rw [if_pos hw] at h
          rcases h with h | ⟨_, a0, w0, h⟩
          · refine .inl ?_
            unfold Oper.wp at *
            generalize (execOp a.eval o).run P w = rr at *
            have hno : ¬ LetsOut Q' := fun ⟨_, _, hq⟩ => by cases hE _ _ _ hq
            cases rr with
            | ok m w' =>
              cases m <;> simp only [Oper.upon] at h ⊢ <;>
                first
                  | exact ih k _ _ Q' hN hE h
                  | exact Calls.mono h (fun e w'' he => by
                      cases e with
                      | returned v => exact ih k _ _ Q' hN hE he
                      | panicked c => cases hE _ _ _ he
                      | outgrown => exact (hno he).elim)
                  | exact Rows.mono h (fun _ _ he => ih k _ _ Q' hN hE he)
            | halt x w' => cases x <;> simp only [Oper.upon] at h ⊢ <;> first | exact h.elim | cases hE _ _ _ h
          · cases hE _ _ _ h
        · rename_i hw
          rw [if_neg hw] at h
          exact ih k _ _ Q' hN hE h
  refine key l k a w _ (fun a' w' hq => ?_) (fun e a' w' hq => ?_) h3
  · obtain ⟨env', ha', _, x, hc, hΦ⟩ := hq
    exact h2 x w' hΦ a' (ha'.lose hc.sub)
  · obtain ⟨env', ha', he, _⟩ := hq
    exact he

theorem mid_nil {α : Type} {E : α → Env} {Φ : α → World → Prop} (x : α) (hc : Cov env (E x)) (hΦ : Φ x w) : WL P n ops [] (fun e env w' => e = .normal ∧ ∃ x, Cov env (E x) ∧ Φ x w') env w := wl_nil ⟨rfl, x, hc, hΦ⟩

/-- The same in a region that draws: the world is one of the later ones. -/
theorem wo_mid (k : Nat) (E : Env) (h1 : WO P n ops (fun e env _ => e = .normal ∧ Cov env E) (r.take k) env w) (h2 : WO P n ops Q (r.drop k) E w) : WO P n ops Q r env w := by
  intro a ha
  have h3 := h1 a ha
  have key : ∀ (l : List (Oper × Bool)) (k : Nat) (a : Act) (w w1 : World) (QA QB : Act → World → Prop), Rel w w1 → (∀ w2, Rel w w2 → ∀ a w3, QB a w3 → wpO P ops QA (l.drop k) a w2) → wpO P ops QB (l.take k) a w1 → wpO P ops QA l a w1 := by
    intro l
    induction l with
    | nil => intro k a w w1 QA QB hr hN h; simp only [List.take_nil, List.drop_nil, wpO] at h hN ⊢; exact fun w2 h2 => hN w1 hr a w1 (h w1 (Rel.refl w1)) w2 h2
    | cons o l ih =>
      intro k a w w1 QA QB hr hN h
      cases k with
      | zero => simp only [List.take_zero, List.drop_zero, wpO] at h hN; exact hN w1 hr a w1 (h w1 (Rel.refl w1))
      | succ k =>
        simp only [List.take_succ_cons, List.drop_succ_cons] at h hN
        obtain ⟨o, f⟩ := o
        cases f with
        | false => obtain ⟨v, hy, hK⟩ := h; exact ⟨v, hy, ih k _ w w1 QA QB hr hN hK⟩
        | true =>
          obtain ⟨hw, hK⟩ := h
          exact ⟨hw, fun w2 h2 => wp_weak (fun a' w' ⟨h3, v, h4, h5⟩ => ⟨h3, v, h4, ih k _ w w' QA QB (hr.trans (h2.trans h3)) hN h5⟩) (hK w2 h2)⟩
  refine key r k a w w _ _ (Rel.refl w) (fun w2 h2' a' w3 hq => ?_) h3
  obtain ⟨env', ha', _, hc⟩ := hq
  have h4 := h2 a' (ha'.lose hc.sub)
  have up : ∀ (l : List (Oper × Bool)) (a : Act) (w w' : World) (QA : Act → World → Prop), Rel w w' → wpO P ops QA l a w → wpO P ops QA l a w' := by
    intro l
    induction l with
    | nil => intro a w w' QA hr h w1 h1; exact h w1 (hr.trans h1)
    | cons o l ih =>
      intro a w w' QA hr h
      obtain ⟨o, f⟩ := o
      cases f with
      | false =>
        obtain ⟨v, hy, hK⟩ := h
        refine ⟨v, ?_, ih _ w w' QA hr hK⟩
        rcases hy with ⟨hw, hq⟩ | hy
        · exact .inl ⟨hw, fun w1 h1 => hq w1 (hr.trans h1)⟩
        · exact .inr hy
      | true => exact ⟨h.1, fun w1 h1 => h.2 w1 (hr.trans h1)⟩
  exact up _ _ _ _ _ h2' h4

theorem mid_onil {E : Env} (hc : Cov env E) : WO P n ops (fun e env _ => e = .normal ∧ Cov env E) [] env w := o_nil fun _ _ => ⟨rfl, hc⟩

end

-- Flat elements

/-- Cells without any address. -/
def dFl (cs : List Value) : D := ⟨fun _ _ c => c = cs, fun _ h => h⟩
/-- A list of flat elements. -/
def dFs {T : Type} (k : Nat) (f : T → List Value) (l : List T) : D := dSl k (l.map fun x => dFl (f x))

theorem rdE_flat {T : Type} {k : Nat} {f : T → List Value} {S : Nat → Prop} {w : World} : ∀ {l : List T} {cs : List Value}, (∀ x, (f x).length = k) → (rdE k S w (l.map fun x => dFl (f x)) cs ↔ cs = l.flatMap f)
  | [], cs, _ => by simp [rdE]
  | x :: l, cs, hk => by
    simp only [List.map_cons, rdE, List.flatMap_cons]
    constructor
    · rintro ⟨c1, c2, e, _, h1, h2⟩
      have h1' : c1 = f x := h1
      rw [e, h1', (rdE_flat hk).1 h2]
    · rintro rfl
      exact ⟨f x, _, rfl, hk x, rfl, (rdE_flat hk).2 rfl⟩

theorem Fs.form {T : Type} {k : Nat} {f : T → List Value} {l : List T} {S : Nat → Prop} {w : World} {v : Value} (h : (dFs k f l).rd S w [v]) : ∃ a cap, v = .slice a l.length cap ∧ l.length ≤ cap ∧ cap ≤ maxLen := by
  obtain ⟨a, cap, e, h1, h2, _⟩ := Sl.form h
  simp only [List.length_map] at e h1
  exact ⟨a, cap, e, h1, h2⟩

theorem Fs.le {T : Type} {k : Nat} {f : T → List Value} {l : List T} {S : Nat → Prop} {w : World} {v : Value} (h : (dFs k f l).rd S w [v]) : (l.length : Int) ≤ 9223372036854775807 := by
  obtain ⟨a, cap, e, h1, h2⟩ := Fs.form h
  simp only [maxLen] at h2
  omega

theorem Fs.cell {T : Type} {k : Nat} {f : T → List Value} {l : List T} {S : Nat → Prop} {w : World} {v : Value} (h : (dFs k f l).rd S w [v]) {i : Nat} (d0 : T) (hi : i < l.length) {j : Nat} {u : Value} (hu : (f (l.getD i d0))[j]? = some u) :
    w.cell? (eaddr v (i * k + j)) = some u := by
  obtain ⟨cs, _, h2, h3⟩ := Sl.cells h (i := i) (d := dFl (f l[i])) (by simp [hi])
  have h2' : cs = f l[i] := h2
  subst h2'
  refine h3 j u ?_
  rw [List.getD_eq_getElem?_getD, List.getElem?_eq_getElem hi] at hu
  exact hu

section
variable {P : Program} {n : Nat} {env : Env} {w : World} {d : Option Tmp} {ty : TypeId} {pos : String} {af : Array Edge} {g : Option (Nat × Bool)}
variable {T : Type} {k : Nat} {f : T → List Value} {l : List T} {S : Nat → Prop} {w1 : World} {v : Value}

theorem r_lenF {x : Operand} {t e : TypeId} (ht : P.underlying t = some (.slice e)) (hx : ev env x = some v) (h : (dFs k f l).rd S w1 [v]) :
    Runs P n env w ⟨d, .call { callee := .builtin .len, args := #[x], argTypes := #[t] }, ty, pos, af, g⟩ (.int .i64 (l.length : Int)) w := by
  obtain ⟨a, cap, rfl, _⟩ := Fs.form h
  exact r_len ht hx

theorem r_ixF {x y : Operand} {t e : TypeId} {bytes : Nat} {z : Value} {i : Int} (ht : P.underlying t = some (.slice e)) (hs : Sz P e k bytes z)
    (hx : ev env x = some v) (hy : ev env y = some (.int .i64 i)) (h : (dFs k f l).rd S w1 [v]) (h0 : 0 ≤ i ∧ i < (l.length : Int)) :
    Runs P n env w ⟨d, .indexAddr t x y, ty, pos, af, g⟩ (.pointer (some (eaddr v (i.toNat * k)))) w := r_ix ht hs hx hy h (by simpa using h0)

/-- A load of one cell of an element. -/
theorem r_ldF {x : Operand} {t : TypeId} {td : TypeDesc} {i j : Nat} {u : Value} (d0 : T) (ht : P.underlying t = some td) (hn : noAgg td = true) (hx : ev env x = some (.pointer (some (eaddr v (i * k + j))))) (h : (dFs k f l).rd S w [v]) (hi : i < l.length) (hu : (f (l.getD i d0))[j]? = some u) :
    Runs P n env w ⟨d, .load t x, ty, pos, af, g⟩ u w := r_ld ht hn hx (Fs.cell h d0 hi hu)

/-- A load of an element of one cell. -/
theorem r_ldF0 {x : Operand} {t : TypeId} {td : TypeDesc} {i : Nat} {u : Value} (d0 : T) (ht : P.underlying t = some td) (hn : noAgg td = true) (hx : ev env x = some (.pointer (some (eaddr v (i * k))))) (h : (dFs k f l).rd S w [v]) (hi : i < l.length) (hu : (f (l.getD i d0))[0]? = some u) :
    Runs P n env w ⟨d, .load t x, ty, pos, af, g⟩ u w := r_ld ht hn hx (by simpa using Fs.cell h d0 hi hu)

/-- A load of a whole element. -/
theorem r_ldFS {x : Operand} {t : TypeId} {fs : Array Field} {bytes : Nat} {z : Value} {i : Nat} (d0 : T) (ht : P.underlying t = some (.struct fs)) (hs : Sz P t k bytes z) (hk : ∀ x, (f x).length = k) (hx : ev env x = some (.pointer (some (eaddr v (i * k))))) (h : (dFs k f l).rd S w [v]) (hi : i < l.length) :
    Runs P n env w ⟨d, .load t x, ty, pos, af, g⟩ (.agg (f (l.getD i d0)).toArray) w := by
  refine r_ldS ht hs hx (hk _) fun j u hj => ?_
  have h1 := Fs.cell h d0 hi hj
  obtain ⟨a, cap, rfl, _⟩ := Fs.form h
  cases a with
  | none =>
    obtain ⟨_, _, e, _, _, hne⟩ := Sl.form h
    have : l.map (fun x => dFl (f x)) ≠ [] := by intro e; simp at e; subst e; simp at hi
    obtain ⟨b, off, hb⟩ := hne this
    simp only [Value.slice.injEq] at e
    rw [← e.1] at hb
    cases hb
  | some a => simpa [eaddr, Addr.add_lit, Nat.add_assoc] using h1

/-- The address of a field of an element. -/
theorem r_fldF {x : Operand} {t : TypeId} {q off j : Nat} {fs : Array Field} {fd : Field} {size bytes : Nat} {z : Value} {i : Nat} (ht : P.underlying t = some (.struct fs)) (hf : fs[q]? = some fd) (ho : fd.offset = off)
    (hs : Sz P fd.type size bytes z) (hx : ev env x = some (.pointer (some (eaddr v j)))) (h : (dFs k f l).rd S w1 [v]) (hi : i < l.length) :
    Runs P n env w ⟨d, .fieldAddr t x q, ty, pos, af, g⟩ (.pointer (some (eaddr v (j + off)))) w := by
  refine r_flde ht hf ho hs hx ?_
  obtain ⟨a, cap, e, _, _, hne⟩ := Sl.form h
  have : l.map (fun x => dFl (f x)) ≠ [] := by intro e; simp at e; subst e; simp at hi
  obtain ⟨b, off, rfl⟩ := hne this
  exact ⟨_, _, _, e⟩

end

section
variable {w0 : Base} {w w' : World} {m : List Own} {rs : List (List Value × D)}

theorem St.nil (h : St w0 m rs w) (e size : Nat) : St w0 (oSl (.slice none 0 0) e size 0 [] :: m) rs w :=
  h.own (Rel.refl w) (World.ownsRow_nil w 0 e size) fun b hb => by simp [oSl, Value.ownBlock] at hb

/-- What was owned is only read from now on. -/
theorem St.fix {v : Value} {e size k : Nat} {xs : List Value} {ds : List D} (h : St w0 (oSl v e size k xs :: m) rs w) (hk : ds.length = k) (he : rdE size (fun b => b < w.heap.size ∧ ∀ o ∈ m, ¬ o.fp b) w ds xs) : St w0 m (([v], dSl size ds) :: rs) w := by
  have hown : w.ownsRow 0 e size v k xs := h.top
  have hd := h.drop
  refine hd.more ?_
  rcases hown.2 with ⟨rfl, h0⟩ | ⟨g, cap, cur, rfl, _, hg, hnc, hcm, hcs, htk⟩
  · refine ⟨none, 0, by rw [hk, h0], by omega, by simp [maxLen], fun hne => ?_⟩
    cases ds with
    | nil => exact absurd rfl hne
    | cons _ _ => simp at hk; omega
  · refine ⟨_, cap, by rw [hk], by omega, hcm, fun hne => ⟨g, 0, xs, rfl, ⟨(Array.getElem?_eq_some_iff.1 hg).1, fun o ho e => ?_⟩, fun j u hj => ?_, he⟩⟩
    · exact (List.pairwise_cons.1 h.nd).1 o ho g rfl e
    · have := hown.cells (g := g) rfl j u hj
      rwa [Addr.add_lit] at this

theorem St.sealF {T : Type} {f : T → List Value} {l : List T} {v : Value} {e size k : Nat} {xs : List Value} (h : St w0 (oSl v e size k xs :: m) rs w) (hf : ∀ x, (f x).length = size) (hk : l.length = k) (hx : xs = l.flatMap f) : St w0 m (([v], dFs size f l) :: rs) w :=
  h.fix (by simpa using hk) ((rdE_flat hf).2 hx)

theorem St.ownR {v : Value} {e size k : Nat} {xs : List Value} (h : St (b0 w) (oSl v e size k xs :: m) rs w') : w'.ownsRow w.heap.size e size v k xs := by
  have hown : w'.ownsRow 0 e size v k xs := h.top
  have hge := (h.ok _ (List.mem_cons_self)).2
  exact ⟨hown.1, hown.2.imp id fun ⟨g, cap, cur, e1, _, rest⟩ => ⟨g, cap, cur, e1, (hge g (by subst e1; rfl)).resolve_right (by simp [b0]), rest⟩⟩

/-- A callee's own row becomes the caller's. -/
theorem St.gain {v : Value} {e size k : Nat} {xs : List Value} (h : St w0 m rs w) (hr : Rel w w') (ho : w'.ownsRow w.heap.size e size v k xs) : St w0 (oSl v e size k xs :: m) rs w' :=
  h.own hr (o := oSl v e size k xs) ⟨ho.1, ho.2.imp id fun ⟨g, cap, cur, e1, _, rest⟩ => ⟨g, cap, cur, e1, Nat.zero_le _, rest⟩⟩ fun b hb => (ho.lt b hb).1

theorem St.pull3 {a b c o : Own} (h : St w0 (a :: b :: c :: o :: m) rs w) : St w0 (o :: a :: b :: c :: m) rs w := h.perm (List.perm_middle (l₁ := [a, b, c]) (a := o) (l₂ := m))
theorem St.pull4 {a b c e o : Own} (h : St w0 (a :: b :: c :: e :: o :: m) rs w) : St w0 (o :: a :: b :: c :: e :: m) rs w := h.perm (List.perm_middle (l₁ := [a, b, c, e]) (a := o) (l₂ := m))

theorem St.pull5 {a b c e f o : Own} (h : St w0 (a :: b :: c :: e :: f :: o :: m) rs w) : St w0 (o :: a :: b :: c :: e :: f :: m) rs w := h.perm (List.perm_middle (l₁ := [a, b, c, e, f]) (a := o) (l₂ := m))
theorem St.pull6 {a b c e f g o : Own} (h : St w0 (a :: b :: c :: e :: f :: g :: o :: m) rs w) : St w0 (o :: a :: b :: c :: e :: f :: g :: m) rs w := h.perm (List.perm_middle (l₁ := [a, b, c, e, f, g]) (a := o) (l₂ := m))
theorem St.pull7 {a b c e f g i o : Own} (h : St w0 (a :: b :: c :: e :: f :: g :: i :: o :: m) rs w) : St w0 (o :: a :: b :: c :: e :: f :: g :: i :: m) rs w := h.perm (List.perm_middle (l₁ := [a, b, c, e, f, g, i]) (a := o) (l₂ := m))
theorem St.pull8 {a b c e f g i j o : Own} (h : St w0 (a :: b :: c :: e :: f :: g :: i :: j :: o :: m) rs w) : St w0 (o :: a :: b :: c :: e :: f :: g :: i :: j :: m) rs w := h.perm (List.perm_middle (l₁ := [a, b, c, e, f, g, i, j]) (a := o) (l₂ := m))

end
end Go.Proofs.Ythnnhoabdhhkaaa
