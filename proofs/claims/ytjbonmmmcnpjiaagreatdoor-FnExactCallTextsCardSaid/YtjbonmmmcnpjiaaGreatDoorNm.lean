/- The second layer, part M: calls; what a function computes, as a partial function of data. No condition. -/
import Derived.Test.YtjbonmmmcnpjiaaGreatDoorNl
namespace Go.Proofs.YtjbonmmmcnpjiaaGreatDoor
open Go.RowKit

-- What a function computes

/-- The outcome of a round. -/
inductive Lr (σ ρ : Type) where
  | go (s : σ)
  | out (r : ρ)

def xg (p : Prop) [Decidable p] {α : Type} (x : Option α) : Option α := if p then x else none

def Lr.on {σ ρ α : Type} (r : Lr σ ρ) (f : σ → α) (g : ρ → α) : α := match r with
  | .go s => f s
  | .out r => g r

/-- Rounds, at most so many. -/
def iterN {σ ρ : Type} (f : σ → Option (Lr σ ρ)) : Nat → σ → Option ρ
  | 0, _ => none
  | n + 1, s => (f s).bind fun r => r.on (iterN f n) some

open Classical in
/-- Rounds up to the end. -/
noncomputable def iter {σ ρ : Type} (f : σ → Option (Lr σ ρ)) (s : σ) : Option ρ :=
  if h : ∃ n r, iterN f n s = some r then some h.choose_spec.choose else none

theorem iterN_up {σ ρ : Type} {f : σ → Option (Lr σ ρ)} : ∀ {n m : Nat} {s : σ} {r : ρ}, iterN f n s = some r → n ≤ m → iterN f m s = some r
  | 0, _, _, _, h, _ => by cases h
  | n + 1, 0, _, _, _, hm => by omega
  | n + 1, m + 1, s, r, h, hm => by
    unfold iterN at h ⊢
    cases hf : f s with
    | none => rw [hf] at h; cases h
    | some x =>
      rw [hf] at h
      cases x with
      | go s' => exact iterN_up (n := n) h (by omega)
      | out r' => exact h

theorem iter_some {σ ρ : Type} {f : σ → Option (Lr σ ρ)} {s : σ} {r : ρ} : iter f s = some r ↔ ∃ n, iterN f n s = some r := by
  unfold iter
  constructor
  · intro h
    split at h
    · rename_i hx
      simp only [Option.some.injEq] at h
      subst h
      exact ⟨_, hx.choose_spec.choose_spec⟩
    · cases h
  · rintro ⟨n, hn⟩
    have hx : ∃ n r, iterN f n s = some r := ⟨n, r, hn⟩
    rw [dif_pos hx]
    have h1 := hx.choose_spec.choose_spec
    have h2 := iterN_up h1 (Nat.le_max_left hx.choose n)
    have h3 := iterN_up hn (Nat.le_max_right hx.choose n)
    rw [h2] at h3
    exact h3

theorem iter_eq {σ ρ : Type} (f : σ → Option (Lr σ ρ)) (s : σ) : iter f s = (f s).bind fun r => r.on (iter f) some := by
  cases hf : f s with
  | none =>
    cases h : iter f s with
    | none => rfl
    | some r =>
      obtain ⟨n, hn⟩ := iter_some.1 h
      cases n with
      | zero => cases hn
      | succ n => unfold iterN at hn; rw [hf] at hn; cases hn
  | some x =>
    cases x with
    | out r =>
      show iter f s = some r
      exact iter_some.2 ⟨1, by unfold iterN; rw [hf]; rfl⟩
    | go s' =>
      show iter f s = iter f s'
      cases h : iter f s' with
      | some r =>
        obtain ⟨n, hn⟩ := iter_some.1 h
        exact iter_some.2 ⟨n + 1, by unfold iterN; rw [hf]; exact hn⟩
      | none =>
        cases h' : iter f s with
        | none => rfl
        | some r =>
          obtain ⟨n, hn⟩ := iter_some.1 h'
          cases n with
          | zero => cases hn
          | succ n =>
            unfold iterN at hn
            rw [hf] at hn
            rw [iter_some.2 ⟨n, hn⟩] at h
            cases h

/-- Rounds over the numbers from k on, m of them. -/
def eachN {σ ρ : Type} (f : Nat → σ → Option (Lr σ ρ)) (e : σ → ρ) : Nat → Nat → σ → Option ρ
  | 0, _, s => some (e s)
  | m + 1, k, s => (f k s).bind fun r => r.on (eachN f e m (k + 1)) some

/-- The same over a list. -/
def eachL {T σ ρ : Type} (f : T → Nat → σ → Option (Lr σ ρ)) (e : σ → ρ) : List T → Nat → σ → Option ρ
  | [], _, s => some (e s)
  | x :: l, k, s => (f x k s).bind fun r => r.on (eachL f e l (k + 1)) some

theorem eachN_list {T σ ρ : Type} [Inhabited T] {f : T → Nat → σ → Option (Lr σ ρ)} {e : σ → ρ} : ∀ (l : List T) (p : List T) (s : σ), eachN (fun k s => f (el (p ++ l) k) k s) e l.length p.length s = eachL f e l p.length s
  | [], p, s => rfl
  | x :: l, p, s => by
    have h1 : el (p ++ x :: l) p.length = x := by unfold el; rw [List.getD_eq_getElem?_getD]; simp
    have h2 := fun s => eachN_list (f := f) (e := e) l (p ++ [x]) s
    simp only [List.append_assoc, List.singleton_append, List.length_append, List.length_singleton] at h2
    simp only [List.length_cons, eachN, eachL, h1]
    congr 1
    funext r
    cases r with
    | go s => exact h2 s
    | out r => rfl

theorem each_list {T σ ρ : Type} [Inhabited T] (f : T → Nat → σ → Option (Lr σ ρ)) (e : σ → ρ) (l : List T) (s : σ) : eachN (fun k s => f (el l k) k s) e l.length 0 s = eachL f e l 0 s := eachN_list l [] s

section
variable {α β : Type}
theorem bind_some' {x : Option α} {f : α → Option β} {r : β} (h : x.bind f = some r) : ∃ y, x = some y ∧ f y = some r := Option.bind_eq_some_iff.1 h
theorem xg_some {p : Prop} [Decidable p] {x : Option α} {r : α} (h : xg p x = some r) : p ∧ x = some r := by
  unfold xg at h
  split at h
  · exact ⟨by assumption, h⟩
  · cases h
theorem xif_t {b : Bool} {x y : Option α} {r : α} (hb : b = true) (h : cond b x y = some r) : x = some r := by rw [hb] at h; exact h
theorem xif_f {b : Bool} {x y : Option α} {r : α} (hb : b = false) (h : cond b x y = some r) : y = some r := by rw [hb] at h; exact h
theorem iter_run {σ ρ : Type} {f : σ → Option (Lr σ ρ)} {s : σ} {r : ρ} (h : iter f s = some r) : ∃ n, iterN f n s = some r := iter_some.1 h
theorem iterN_step {σ ρ : Type} {f : σ → Option (Lr σ ρ)} {n : Nat} {s : σ} {r : ρ} (h : iterN f n s = some r) : ∃ m z, n = m + 1 ∧ f s = some z ∧ z.on (iterN f m) some = some r := by
  cases n with
  | zero => cases h
  | succ m =>
    obtain ⟨z, h1, h2⟩ := bind_some' (x := f s) h
    exact ⟨m, z, rfl, h1, h2⟩
theorem eachN_step {σ ρ : Type} {f : Nat → σ → Option (Lr σ ρ)} {e : σ → ρ} {m k n : Nat} {s : σ} {r : ρ} (h : eachN f e m k s = some r) (hk : k + m = n) (hn : (k : Int) < (n : Int)) : ∃ m' z, m = m' + 1 ∧ k + 1 + m' = n ∧ f k s = some z ∧ z.on (eachN f e m' (k + 1)) some = some r := by
  cases m with
  | zero => omega
  | succ m =>
    obtain ⟨z, h1, h2⟩ := bind_some' (x := f k s) h
    exact ⟨m, z, rfl, by omega, h1, h2⟩
theorem eachN_end {σ ρ : Type} {f : Nat → σ → Option (Lr σ ρ)} {e : σ → ρ} {m k n : Nat} {s : σ} {r : ρ} (h : eachN f e m k s = some r) (hk : k + m = n) (hn : ¬ (k : Int) < (n : Int)) : e s = r := by
  have : m = 0 := by omega
  subst this
  exact Option.some.inj h
end

/-- Two ghosts as one. -/
@[reducible] def un {α β : Type} {γ : Sort _} (f : α → β → γ) : α × β → γ
  | (a, b) => f a b

def inI (x : Int) : Prop := -9223372036854775808 ≤ x ∧ x ≤ 9223372036854775807
instance (x : Int) : Decidable (inI x) := inferInstanceAs (Decidable (_ ∧ _))

-- Calls

section
variable {P : Program} {w : World} {w0 : Base} {l m : List As} {rs : List Rd} {f : FuncId} {vs : List Value}

theorem St.back {F F1 F2 S : Bs} {w' : World} {l' : List As} {rs1 : List Rd} (h1 : RelX w0.X w0.w w) (hb : ∀ b, w0.S b → b.1 < w0.w.heap.size ∧ ¬ w0.X b) (g2 : Sep m F2 w) (g3 : ∀ b, F1 b → ¬ F2 b) (g4 : ∀ b, F1 b → F b) (g5 : ∀ b, F2 b → F b)
    (h3 : ∀ b, F b → w0.w.heap.size ≤ b.1 ∨ w0.X b) (h4 : ∀ r ∈ rs, r.ok (fun b => (w0.S b ∨ w0.X b ∨ w0.w.heap.size ≤ b.1) ∧ b.1 < w.heap.size ∧ ¬ F b) w) (G : Gives F1 S w l' rs1 w') (hS : rs1 = [] ∨ ∀ b, S b → (w0.S b ∨ w0.X b ∨ w0.w.heap.size ≤ b.1) ∧ ¬ F2 b) : St w0 (l' ++ m) (rs1 ++ rs) w' := by
  obtain ⟨k2, F', k1, k3, k4⟩ := G
  have g2' : Sep m F2 w' := g2.loc (k2.lc fun b hb h' => g3 b h' hb)
  have hd : ∀ b, F' b → ¬ F2 b := fun b hb h' => by
    rcases k3 b hb with h'' | h''
    · have := g2.lt b h'; omega
    · exact g3 b h'' h'
  refine ⟨h1.step k2 fun b hb => h3 b (g4 b hb), hb, _, Sep.join k1 g2' hd, fun b hb' => ?_, fun r hr => ?_⟩
  · rcases hb' with hb' | hb'
    · rcases k3 b hb' with h' | h'
      · have := h1.size; exact .inl (by omega)
      · exact h3 b (g4 b h')
    · exact h3 b (g5 b hb')
  · rcases List.mem_append.1 hr with hr | hr
    · rcases hS with rfl | hS
      · cases hr
      · refine r.mono (fun b hb' => ⟨?_, hb'.2.1, fun h' => ?_⟩) (Lc.refl _ _) (k4 r hr)
        · rcases hb'.1 with h' | h' | h'
          · exact (hS b h').1
          · exact .inr ((h3 b (g4 b h')).elim .inr .inl)
          · have := h1.size; exact .inr (.inr (by omega))
        · rcases h' with h' | h'
          · exact hb'.2.2 h'
          · rcases hb'.1 with h'' | h'' | h''
            · exact (hS b h'').2 h'
            · exact g3 b h'' h'
            · have := g2.lt b h'; omega
    · refine r.mono (fun b hb' => ⟨hb'.1, Nat.lt_of_lt_of_le hb'.2.1 k2.size, fun h' => ?_⟩) (k2.lc fun b hb' e => hb'.2.2 (g4 b e)) (h4 r hr)
      rcases h' with h' | h'
      · rcases k3 b h' with h'' | h''
        · have := hb'.2.1; omega
        · exact hb'.2.2 (g4 b h'')
      · exact hb'.2.2 (g5 b h')

/-- A call: the things in front are lent; what is owned besides may be read. -/
theorem St.callO {Y : Type} {val : Y → Value} {l' : Y → List As} (h : St w0 (l ++ m) rs w)
    (hc : ∀ X S : Bs, Sep l X w → (∀ b, S b → b.1 < w.heap.size ∧ ¬ X b) → (∀ r ∈ rs, r.ok S w) → (∀ a ∈ m, ∃ F, (∀ b, F b → S b) ∧ a.ok F w) → Ret P f vs w (fun u w' => ∃ y, u = val y ∧ Gives X S w (l' y) [] w')) :
    Ret P f vs w (fun u w' => ∃ y, u = val y ∧ St w0 (l' y ++ m) rs w') := by
  obtain ⟨h1, hb, F, h2, h3, h4⟩ := h
  obtain ⟨F1, F2, g1, g2, g3, g4, g5⟩ := h2.split
  refine (hc F1 (fun b => b.1 < w.heap.size ∧ ¬ F1 b) g1 (fun _ h => h) (fun r hr => r.mono (fun b hb' => ⟨hb'.2.1, fun h' => hb'.2.2 (g4 b h')⟩) (Lc.refl _ _) (h4 r hr)) (fun a ha => ?_)).mono fun u w' ⟨y, hu, G⟩ => ⟨y, hu, St.back h1 hb g2 g3 g4 g5 h3 h4 G (.inl rfl)⟩
  obtain ⟨F', h6, h7⟩ := g2.mem ha
  exact ⟨F', fun b hb' => ⟨g2.lt b (h6 b hb'), fun h' => g3 b h' (h6 b hb')⟩, h7⟩

/-- A call whose results may lie in what was handed in: what is owned and not lent is out of its sight. -/
theorem St.callR {Y : Type} {val : Y → Value} {l' : Y → List As} {rs1 : Y → List Rd} (h : St w0 (l ++ m) rs w)
    (hc : ∀ X S : Bs, Sep l X w → (∀ b, S b → b.1 < w.heap.size ∧ ¬ X b) → (∀ r ∈ rs, r.ok S w) → Ret P f vs w (fun u w' => ∃ y, u = val y ∧ Gives X S w (l' y) (rs1 y) w')) :
    Ret P f vs w (fun u w' => ∃ y, u = val y ∧ St w0 (l' y ++ m) (rs1 y ++ rs) w') := by
  obtain ⟨h1, hb, F, h2, h3, h4⟩ := h
  obtain ⟨F1, F2, g1, g2, g3, g4, g5⟩ := h2.split
  refine (hc F1 (fun b => (w0.S b ∨ w0.X b ∨ w0.w.heap.size ≤ b.1) ∧ b.1 < w.heap.size ∧ ¬ F b) g1 (fun b hb' => ⟨hb'.2.1, fun h' => hb'.2.2 (g4 b h')⟩) h4).mono fun u w' ⟨y, hu, G⟩ => ⟨y, hu, St.back h1 hb g2 g3 g4 g5 h3 h4 G (.inr fun b hb' => ⟨hb'.1, fun h' => hb'.2.2 (g5 b h')⟩)⟩

/-- Nothing is lent: nothing old has changed. -/
theorem Gives.rel {S : Bs} {w' : World} (h : Gives (fun _ => False) S w m rs w') : Rel w w' := h.relx.rel fun _ h => h

/-- A call to which nothing is lent, in a drawn region. -/
theorem St.callF {Y : Type} {val : Y → Value} {l' : Y → List As} (h : St w0 m rs w)
    (hc : ∀ X S : Bs, Sep [] X w → (∀ b, S b → b.1 < w.heap.size ∧ ¬ X b) → (∀ r ∈ rs, r.ok S w) → (∀ a ∈ m, ∃ F, (∀ b, F b → S b) ∧ a.ok F w) → Ret P f vs w (fun u w' => ∃ y, u = val y ∧ Gives X S w (l' y) [] w')) :
    Ret P f vs w (fun u w' => Rel w w' ∧ ∃ y, u = val y ∧ St w0 (l' y ++ m) rs w') := by
  obtain ⟨h1, hb, F, h2, h3, h4⟩ := h
  refine (hc (fun _ => False) (fun b => b.1 < w.heap.size) (fun _ h => h.elim) (fun _ h => ⟨h, fun h => h⟩) (fun r hr => r.mono (fun b hb' => hb'.2.1) (Lc.refl _ _) (h4 r hr)) (fun a ha => ?_)).mono fun u w' ⟨y, hu, G⟩ => ⟨G.rel, y, hu, St.back (F1 := fun _ => False) h1 hb h2 (fun _ h => h.elim) (fun _ h => h.elim) (fun _ h => h) h3 h4 G (.inl rfl)⟩
  obtain ⟨F', h6, h7⟩ := h2.mem ha
  exact ⟨F', fun b hb' => h2.lt b (h6 b hb'), h7⟩

theorem St.callFR {Y : Type} {val : Y → Value} {l' : Y → List As} {rs1 : Y → List Rd} (h : St w0 m rs w)
    (hc : ∀ X S : Bs, Sep [] X w → (∀ b, S b → b.1 < w.heap.size ∧ ¬ X b) → (∀ r ∈ rs, r.ok S w) → Ret P f vs w (fun u w' => ∃ y, u = val y ∧ Gives X S w (l' y) (rs1 y) w')) :
    Ret P f vs w (fun u w' => Rel w w' ∧ ∃ y, u = val y ∧ St w0 (l' y ++ m) (rs1 y ++ rs) w') := by
  obtain ⟨h1, hb, F, h2, h3, h4⟩ := h
  exact (hc (fun _ => False) (fun b => (w0.S b ∨ w0.X b ∨ w0.w.heap.size ≤ b.1) ∧ b.1 < w.heap.size ∧ ¬ F b) (fun _ h => h.elim) (fun b hb' => ⟨hb'.2.1, fun h' => h'⟩) h4).mono fun u w' ⟨y, hu, G⟩ => ⟨G.rel, y, hu, St.back (F1 := fun _ => False) h1 hb h2 (fun _ h => h.elim) (fun _ h => h.elim) (fun _ h => h) h3 h4 G (.inr fun b hb' => ⟨hb'.1, hb'.2.2⟩)⟩

/-- A call that gives a number, a truth value, a string. -/
theorem St.callV {v : Value} (h : St w0 m rs w)
    (hc : ∀ X S : Bs, Sep [] X w → (∀ b, S b → b.1 < w.heap.size ∧ ¬ X b) → (∀ r ∈ rs, r.ok S w) → (∀ a ∈ m, ∃ F, (∀ b, F b → S b) ∧ a.ok F w) → Ret P f vs w (fun u w' => ∃ _ : Unit, u = v ∧ Gives X S w [] [] w')) :
    Ret P f vs w (fun u w' => u = v ∧ Rel w w') :=
  (St.callF (Y := Unit) (val := fun _ => v) (l' := fun _ => []) h hc).mono fun _ _ ⟨hr, _, hu, _⟩ => ⟨hu, hr⟩

theorem seeA {S : Bs} {c : Ce} {v : Value} (h : ∀ a ∈ m, ∃ F, (∀ b, F b → S b) ∧ a.ok F w) (hm : oC c v ∈ m) : c.rd S w v := by
  obtain ⟨F, hF, hk⟩ := h _ hm
  exact c.mono hF (Lc.refl _ _) (c.seen hk)
theorem seeAV {S : Bs} {c : Ce} {v : Value} {vl : List Vi} (h : ∀ a ∈ m, ∃ F, (∀ b, F b → S b) ∧ a.ok F w) (hm : oV (oC c v) vl ∈ m) : c.rd S w v := by
  obtain ⟨F, hF, hk, _⟩ := h _ hm
  exact c.mono hF (Lc.refl _ _) (c.seen hk)
theorem seeAW {S : Bs} {c : Ce} {v : Value} {o : As} {vl : List Vi} (h : ∀ a ∈ m, ∃ F, (∀ b, F b → S b) ∧ a.ok F w) (hm : oV o vl ∈ m) (hr : vR v c ∈ vl) : c.rd S w v := by
  obtain ⟨F, hF, _, hk⟩ := h _ hm
  exact c.mono hF (Lc.refl _ _) (hk _ hr)
theorem rd_nil {S : Bs} (k : Nat) {T : Type} (f : T → List Ce) : (cSl k f []).rd S w (.slice none 0 0) := ⟨none, 0, rfl, Nat.le_refl _, by simp [maxLen], fun h => absurd rfl h⟩

end
end Go.Proofs.YtjbonmmmcnpjiaaGreatDoor
