/- The second layer, part W: steps taken together, in fewer words. No condition. -/
import Derived.Test.YtjbonmmmcnpjiaaGreatDoorNs
namespace Go.Proofs.YtjbonmmmcnpjiaaGreatDoor
open Go.RowKit

abbrev iv (n : Int) : Value := .int .i64 n
abbrev bv (b : Bool) : Value := .bool b
abbrev pt (b o : Nat) : Value := .pointer (some ⟨b, o, none⟩)
abbrev SX (X S : Bs) (w : World) : Prop := ∀ b, S b → b.1 < w.heap.size ∧ ¬ X b
abbrev KV (X S : Bs) (w : World) (v : Value) : Value → World → Prop := fun u w' => ∃ _ : Unit, u = v ∧ Gives X S w [] [] w'

section
variable {α : Type} {a b0 b1 b2 b3 b4 b5 b6 b7 b8 b9 b10 b11 b12 b13 b14 : α} {l : List α}
theorem m0 : a ∈ a :: l := .head _
theorem m1 : a ∈ b0 :: a :: l := .tail _ m0
theorem m2 : a ∈ b0 :: b1 :: a :: l := .tail _ m1
theorem m3 : a ∈ b0 :: b1 :: b2 :: a :: l := .tail _ m2
theorem m4 : a ∈ b0 :: b1 :: b2 :: b3 :: a :: l := .tail _ m3
theorem m5 : a ∈ b0 :: b1 :: b2 :: b3 :: b4 :: a :: l := .tail _ m4
theorem m6 : a ∈ b0 :: b1 :: b2 :: b3 :: b4 :: b5 :: a :: l := .tail _ m5
theorem m7 : a ∈ b0 :: b1 :: b2 :: b3 :: b4 :: b5 :: b6 :: a :: l := .tail _ m6
theorem m8 : a ∈ b0 :: b1 :: b2 :: b3 :: b4 :: b5 :: b6 :: b7 :: a :: l := .tail _ m7
theorem m9 : a ∈ b0 :: b1 :: b2 :: b3 :: b4 :: b5 :: b6 :: b7 :: b8 :: a :: l := .tail _ m8
theorem mX (h : a ∈ l) : a ∈ b0 :: b1 :: b2 :: b3 :: b4 :: b5 :: b6 :: b7 :: b8 :: b9 :: l := .tail _ (.tail _ (.tail _ (.tail _ (.tail _ (.tail _ (.tail _ (.tail _ (.tail _ (.tail _ h)))))))))
end

section
variable {α β : Type} {G : Prop}
theorem oi {a b : α} (h : some a = some b) : a = b := Option.some.inj h
theorem bs {x : Option α} {f : α → Option β} {r : β} (h : x.bind f = some r) (k : ∀ y, x = some y → f y = some r → G) : G := by
  obtain ⟨y, h1, h2⟩ := bind_some' h
  exact k y h1 h2
theorem xgs {p : Prop} [Decidable p] {x : Option α} {r : α} (h : xg p x = some r) (k : p → x = some r → G) : G := k (xg_some h).1 (xg_some h).2
theorem cs2 {b : Bool} {x y : Option α} {r : α} (h : cond b x y = some r) (t : b = true → x = some r → G) (f : b = false → y = some r → G) : G := by
  cases b with
  | true => exact t rfl h
  | false => exact f rfl h
end

section
variable {P : Program} {n : Nat} {ops : Array Oper} {Q : Post} {env : Env} {w w1 : World} {w0 : Base} {rest l' : List Oper} {ty ty2 : TypeId} {pos pos2 : String} {af af2 : Array Edge} {m l : List As} {rs : List Rd}

theorem St.addV {X S : Bs} (h : St ⟨w1, X, S⟩ m rs w1) {c : Ce} {v : Value} (hr : c.rd S w1 v) : St ⟨w1, X, S⟩ m (rV v c :: rs) w1 := h.addE (r := rV v c) hr

/-- A value that gets a name. -/
def nm {T : Type} (v : T) : Option T := some v
theorem St.ren {T : Type} {k : Nat} {f : T → List Ce} {L L' : List T} {v : Value} (h : St w0 (oC (cSl k f L) v :: m) rs w) (e : L = L') : St w0 (oC (cSl k f L') v :: m) rs w := e ▸ h

theorem wcx {α : Type} {c : Operand} {x y : Code} {t : Bool} {u v : Option α} {r : α} (hx : cond t u v = some r) (hc : ev env c = some (.bool t)) (ht : u = some r → WC P n x Q env w) (hf : v = some r → WC P n y Q env w) : WC P n (.cond c x y) Q env w :=
  wc_cond hc (fun h => ht (xif_t h hx)) (fun h => hf (xif_f h hx))

theorem gn {d : Nat} {op : Op} {j : Nat} {b c : Bool} (hc : c = !b) (hg : gd ops env j = some (.bool c)) (hd : Nat.blt d n = true)
    (h : WL P n ops rest Q ((d, undef) :: env) w) : WL P n ops (⟨some d, op, ty, pos, af, some (j, b)⟩ :: rest) Q env w := gs hg (isB_no hc) hd h

/-- A call that gives one value. -/
theorem w_cv {d : Nat} {f : FuncId} {args : List Operand} {ats : Array TypeId} {vs : List Value} {v : Value} (hM : St w0 m rs w) (hd : Nat.blt d n = true) (hv : evs env args = some vs)
    (hc : ∀ X S : Bs, Sep [] X w → (∀ b, S b → b.1 < w.heap.size ∧ ¬ X b) → (∀ r ∈ rs, r.ok S w) → (∀ a ∈ m, ∃ F, (∀ b, F b → S b) ∧ a.ok F w) → Ret P f vs w (fun u w' => ∃ _ : Unit, u = v ∧ Gives X S w [] [] w'))
    (h : ∀ w', St w0 m rs w' → WL P n ops rest Q ((d, v) :: env) w') : WL P n ops (⟨some d, .call { callee := .value (.func f), args := args.toArray, argTypes := ats }, ty, pos, af, none⟩ :: rest) Q env w :=
  w_call hd hv (hM.callV hc) fun _ w' ⟨hu, hr⟩ => by subst hu; exact h w' (hM.call hr)
theorem g_cv {d : Nat} {f : FuncId} {args : List Operand} {ats : Array TypeId} {vs : List Value} {v : Value} {j : Nat} {b c : Bool} (hM : St w0 m rs w) (hb : c = b) (hg : gd ops env j = some (.bool c)) (hd : Nat.blt d n = true) (hv : evs env args = some vs)
    (hc : ∀ X S : Bs, Sep [] X w → (∀ b, S b → b.1 < w.heap.size ∧ ¬ X b) → (∀ r ∈ rs, r.ok S w) → (∀ a ∈ m, ∃ F, (∀ b, F b → S b) ∧ a.ok F w) → Ret P f vs w (fun u w' => ∃ _ : Unit, u = v ∧ Gives X S w [] [] w'))
    (h : ∀ w', St w0 m rs w' → WL P n ops rest Q ((d, v) :: env) w') : WL P n ops (⟨some d, .call { callee := .value (.func f), args := args.toArray, argTypes := ats }, ty, pos, af, some (j, b)⟩ :: rest) Q env w :=
  gc hg hb hd hv (hM.callV hc) fun _ w' ⟨hu, hr⟩ => by subst hu; exact h w' (hM.call hr)

/-- A stretch behind which the memory is as it was. -/
theorem wl_midH (k : Nat) (E : Env) (hM : St w0 m rs w) (h1 : WL P n ops (l'.take k) (fun e env w' => e = .normal ∧ ∃ _ : Unit, Cov env E ∧ St w0 m rs w') env w) (h2 : ∀ w', St w0 m rs w' → WL P n ops (l'.drop k) Q E w') : WL P n ops l' Q env w :=
  wl_mid k (fun _ : Unit => E) (fun _ w' => St w0 m rs w') h1 fun _ => h2
theorem mid_h {E : Env} (hc : Cov env E) (hM : St w0 m rs w) : WL P n ops [] (fun e env w' => e = .normal ∧ ∃ _ : Unit, Cov env E ∧ St w0 m rs w') env w := mid_nil (E := fun _ : Unit => E) (Φ := fun _ w' => St w0 m rs w') () hc hM

/-- A field of a box is loaded. -/
theorem w_fl {d1 d2 : Nat} {x : Operand} {t t2 : TypeId} {q off : Nat} {b o : Nat} {fs : Array Field} {fd : Field} {size bytes : Nat} {z : Value} {cs : Array Value} {e : TypeId} {v : Value} {td : TypeDesc}
    (ht : P.underlying t = some (.struct fs)) (hs : Sz P t2 size bytes z) (ht2 : P.underlying t2 = some td) (hM : St w0 m rs w) (hm : oBox b cs e ∈ m)
    (hx : ev env x = some (.pointer (some ⟨b, o, none⟩))) (hf : fs[q]? = some fd) (e1 : fd.type = t2) (e2 : fd.offset = off) (hn : noAgg td = true) (hd1 : Nat.blt d1 n = true) (hd2 : Nat.blt d2 n = true) (hc : cs[o + off]? = some v)
    (h : WL P n ops rest Q ((d2, v) :: (d1, .pointer (some ⟨b, o + off, none⟩)) :: env) w) :
    WL P n ops (⟨some d1, .fieldAddr t x q, ty, pos, af, none⟩ :: ⟨some d2, .load t2 (.tmp d1), ty2, pos2, af2, none⟩ :: rest) Q env w := by
  subst e1
  exact wv hd1 (r_fld ht hf e2 hs hx) (wv hd2 (r_ldB ht2 hn (by simp [ev, lk]) hM hm hc) h)

/-- The end of a call that gives one value and no memory. -/
theorem fin_u {X S : Bs} {rs' : List ResultVar} {u : Value} (vs : List Value) (hM : St ⟨w1, X, S⟩ m rs w) (h : RVs P w env rs' vs) (hu : resVal vs = u) : fin P rs' (fun v w' => ∃ _ : Unit, v = u ∧ Gives X S w1 [] [] w') .ret env w :=
  fin_ret vs h ⟨(), hu, (hM.dropAll.fewer rsN).gives⟩
theorem fin_n {X S : Bs} {rs' : List ResultVar} {u : Value} (vs : List Value) (hM : St ⟨w1, X, S⟩ m rs w) (h : RVs P w env rs' vs) (hu : resVal vs = u) : fin P rs' (fun v w' => ∃ _ : Unit, v = u ∧ Gives X S w1 [] [] w') .normal env w :=
  fin_end vs h ⟨(), hu, (hM.dropAll.fewer rsN).gives⟩
end
end Go.Proofs.YtjbonmmmcnpjiaaGreatDoor
