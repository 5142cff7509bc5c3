/- Plain laws of loops: over a list, and with a measure. No condition. -/
import Derived.Test.YtjbonmmmcnpjiaaGreatDoorMl
namespace Go.Proofs.YtjbonmmmcnpjiaaGreatDoor

section
variable {T σ ρ : Type} [Inhabited T]

/-- A loop over a list computes what a function of the rest of the list, the place and the state says. -/
theorem each_run {F : Nat → σ → Option (Lr σ ρ)} {e : σ → ρ} (l : List T) (P : List T → Nat → σ → Prop) (G : List T → Nat → σ → ρ)
    (hn : ∀ s, P [] l.length s → G [] l.length s = e s)
    (hs : ∀ x r k s, k < l.length → el l k = x → P (x :: r) k s → (∃ s', F k s = some (.go s') ∧ P r (k + 1) s' ∧ G (x :: r) k s = G r (k + 1) s') ∨ F k s = some (.out (G (x :: r) k s)))
    (s : σ) (h0 : P l 0 s) : eachN F e l.length 0 s = some (G l 0 s) := by
  have key : ∀ (r p : List T) (s : σ), p ++ r = l → P r p.length s → eachN F e r.length p.length s = some (G r p.length s) := by
    intro r
    induction r with
    | nil =>
      intro p s hp hP
      have hl : p.length = l.length := by rw [← hp]; simp
      rw [hl] at hP ⊢
      show some (e s) = _
      rw [hn s hP]
    | cons x r ih =>
      intro p s hp hP
      have hk : p.length < l.length := by rw [← hp]; simp
      have hx : el l p.length = x := by rw [← hp]; exact el_mid p x r
      have ih' := fun s' h => ih (p ++ [x]) s' (by simpa using hp) (by simpa using h)
      simp only [List.length_append, List.length_singleton] at ih'
      show (F p.length s).bind (fun z => z.on (eachN F e r.length (p.length + 1)) some) = _
      rcases hs x r p.length s hk hx hP with ⟨s', h1, h2, h3⟩ | h1
      · rw [h1, h3]; exact ih' s' h2
      · rw [h1]; rfl
  exact key l [] s rfl h0

theorem each_ex {F : Nat → σ → Option (Lr σ ρ)} {e : σ → ρ} (l : List T) (P : List T → Nat → σ → Prop) (Q : List T → Nat → σ → ρ → Prop)
    (hn : ∀ s, P [] l.length s → Q [] l.length s (e s))
    (hs : ∀ x r k s, k < l.length → el l k = x → P (x :: r) k s → (∃ s', F k s = some (.go s') ∧ P r (k + 1) s' ∧ ∀ y, Q r (k + 1) s' y → Q (x :: r) k s y) ∨ ∃ y, F k s = some (.out y) ∧ Q (x :: r) k s y)
    (s : σ) (h0 : P l 0 s) : ∃ y, eachN F e l.length 0 s = some y ∧ Q l 0 s y := by
  have key : ∀ (r p : List T) (s : σ), p ++ r = l → P r p.length s → ∃ y, eachN F e r.length p.length s = some y ∧ Q r p.length s y := by
    intro r
    induction r with
    | nil =>
      intro p s hp hP
      have hl : p.length = l.length := by rw [← hp]; simp
      rw [hl] at hP ⊢
      exact ⟨e s, rfl, hn s hP⟩
    | cons x r ih =>
      intro p s hp hP
      have hk : p.length < l.length := by rw [← hp]; simp
      have hx : el l p.length = x := by rw [← hp]; exact el_mid p x r
      have ih' := fun s' h => ih (p ++ [x]) s' (by simpa using hp) (by simpa using h)
      simp only [List.length_append, List.length_singleton] at ih'
      show ∃ y, (F p.length s).bind (fun z => z.on (eachN F e r.length (p.length + 1)) some) = some y ∧ _
      rcases hs x r p.length s hk hx hP with ⟨s', h1, h2, h3⟩ | ⟨y, h1, h2⟩
      · rw [h1]
        obtain ⟨y, h4, h5⟩ := ih' s' h2
        exact ⟨y, h4, h3 y h5⟩
      · rw [h1]; exact ⟨y, rfl, h2⟩
  exact key l [] s rfl h0

theorem each_fold {F : Nat → σ → Option (Lr σ ρ)} {e : σ → ρ} (l : List T) (P : List T → Nat → σ → Prop) (g : σ → T → σ)
    (hs : ∀ x r k s, k < l.length → el l k = x → P (x :: r) k s → F k s = some (.go (g s x)) ∧ P r (k + 1) (g s x))
    (s : σ) (h0 : P l 0 s) : eachN F e l.length 0 s = some (e (l.foldl g s)) :=
  each_run (F := F) (e := e) l P (fun r _ s => e (r.foldl g s)) (fun _ _ => rfl) (fun x r k s hk hx hP => .inl ⟨g s x, (hs x r k s hk hx hP).1, (hs x r k s hk hx hP).2, rfl⟩) s h0

theorem each_all {F : Nat → Unit → Option (Lr Unit ρ)} {a b : ρ} (l : List T) (p : T → Bool) (hs : ∀ x k, k < l.length → el l k = x → F k () = some (bif p x then .go () else .out b)) :
    eachN F (fun _ => a) l.length 0 () = some (bif l.all p then a else b) :=
  each_run (F := F) (e := fun _ => a) l (fun _ _ _ => True) (fun r _ _ => bif r.all p then a else b) (fun _ _ => rfl) (fun x r k s hk hx _ => by
    have h := hs x k hk hx
    cases hp : p x with
    | true => exact .inl ⟨(), by rw [h, hp]; rfl, trivial, by simp [hp]⟩
    | false => exact .inr (by rw [h, hp]; simp [hp])) () trivial

theorem each_eq [DecidableEq T] {F : Nat → Unit → Option (Lr Unit ρ)} {x y : ρ} (a b : List T) (hl : a.length = b.length)
    (hs : ∀ k, k < a.length → k < b.length → F k () = some (bif decide (el a k = el b k) then .go () else .out y)) :
    eachN F (fun _ => x) a.length 0 () = some (bif decide (a = b) then x else y) := by
  have h := each_run (F := F) (e := fun _ => x) a (fun r k _ => r.length + k = a.length) (fun r k _ => bif decide (r = b.drop k) then x else y) (fun s _ => by
    rw [hl, List.drop_length]; simp) (fun u r k s hk hx hP => by
    have hkb : k < b.length := by omega
    have hd : b.drop k = el b k :: b.drop (k + 1) := by rw [el_eq hkb]; exact List.drop_eq_getElem_cons hkb
    rw [hs k hk hkb, hx]
    by_cases he : u = el b k
    · refine .inl ⟨(), by rw [cd_t he], by simp only [List.length_cons] at hP; omega, ?_⟩
      rw [hd, he]; simp
    · refine .inr ?_
      rw [cd_f he, hd, decide_eq_false (p := u :: r = el b k :: b.drop (k + 1)) (by simp [he])]; rfl) () (by simp)
  simpa using h

theorem iter_go {f : σ → Option (Lr σ ρ)} (P : σ → Prop) (μ : σ → Nat) (G : σ → ρ) (hs : ∀ s, P s → (∃ s', f s = some (.go s') ∧ P s' ∧ μ s' < μ s ∧ G s = G s') ∨ f s = some (.out (G s))) :
    ∀ (s : σ), P s → iter f s = some (G s) := by
  have key : ∀ (n : Nat) (s : σ), μ s < n → P s → iter f s = some (G s) := by
    intro n
    induction n with
    | zero => intro s h; omega
    | succ n ih =>
      intro s hn hP
      rw [iter_eq]
      rcases hs s hP with ⟨s', h1, h2, h3, h4⟩ | h1
      · rw [h1, h4]; exact ih s' (by omega) h2
      · rw [h1]; rfl
  exact fun s h => key (μ s + 1) s (Nat.lt_succ_self _) h
theorem iter_ex {f : σ → Option (Lr σ ρ)} (P : σ → Prop) (μ : σ → Nat) (Q : ρ → Prop) (hs : ∀ s, P s → (∃ s', f s = some (.go s') ∧ P s' ∧ μ s' < μ s) ∨ ∃ r, f s = some (.out r) ∧ Q r) :
    ∀ (s : σ), P s → ∃ r, iter f s = some r ∧ Q r := by
  have key : ∀ (n : Nat) (s : σ), μ s < n → P s → ∃ r, iter f s = some r ∧ Q r := by
    intro n
    induction n with
    | zero => intro s h; omega
    | succ n ih =>
      intro s hn hP
      rw [iter_eq]
      rcases hs s hP with ⟨s', h1, h2, h3⟩ | ⟨r, h1, h2⟩
      · rw [h1]; exact ih s' (by omega) h2
      · rw [h1]; exact ⟨r, rfl, h2⟩
  exact fun s h => key (μ s + 1) s (Nat.lt_succ_self _) h
theorem el_set_ne {l : List T} {i j : Nat} {y : T} (h : i ≠ j) : el (l.set i y) j = el l j := by unfold el; simp [List.getD_eq_getElem?_getD, h]
theorem drop_el {l : List T} {i : Nat} (h : i < l.length) : l.drop i = el l i :: l.drop (i + 1) := by rw [el_eq h]; exact List.drop_eq_getElem_cons h
theorem el_rep {n i : Nat} {x : T} (h : i < n) : el (List.replicate n x) i = x := by unfold el; simp [List.getD_eq_getElem?_getD, h]
end

theorem cs_ {α : Type} {c : Bool} {a b : α} : (bif c then some a else some b) = some (bif c then a else b) := by cases c <;> rfl
theorem ca_ {c a : Bool} : (bif c then a else false) = (c && a) := by cases c <;> rfl
theorem co_ {c a : Bool} : (bif c then true else a) = (c || a) := by cases c <;> rfl
theorem cn_ {c a : Bool} : (bif c then false else a) = (!c && a) := by cases c <;> rfl
theorem cm_ {c a : Bool} : (bif c then a else true) = (!c || a) := by cases c <;> rfl
theorem bsome {a b : Bool} (h : a = true ↔ b = true) : some a = some b := by rw [Bool.eq_iff_iff.2 h]

/-- Sums. -/
def sumI {T : Type} (f : T → Int) : List T → Int
  | [] => 0
  | x :: l => f x + sumI f l
theorem sumI_app {T : Type} (f : T → Int) : ∀ (a b : List T), sumI f (a ++ b) = sumI f a + sumI f b
  | [], b => by simp [sumI]
  | x :: a, b => by simp only [List.cons_append, sumI, sumI_app f a b]; omega
theorem sumI_nn {T : Type} {f : T → Int} : ∀ {l : List T}, (∀ x ∈ l, 0 ≤ f x) → 0 ≤ sumI f l
  | [], _ => Int.le_refl _
  | x :: l, h => by have := sumI_nn (f := f) (l := l) (fun y hy => h y (by simp [hy])); have := h x (by simp); simp only [sumI]; omega
theorem sumI_bd {T : Type} {f : T → Int} {n : Int} : ∀ {l : List T}, (∀ x ∈ l, f x ≤ n) → sumI f l ≤ n * l.length
  | [], _ => by simp [sumI]
  | x :: l, h => by
    have := sumI_bd (f := f) (n := n) (l := l) (fun y hy => h y (by simp [hy])); have := h x (by simp)
    simp only [sumI, List.length_cons, Int.natCast_add, Int.mul_add, Int.natCast_one, Int.mul_one]; omega
theorem sumI_fold {T : Type} (f : T → Int) : ∀ (l : List T) (s : Int), l.foldl (fun s x => s + f x) s = s + sumI f l
  | [], s => by simp [sumI]
  | x :: l, s => by rw [List.foldl_cons, sumI_fold f l]; simp only [sumI]; omega
theorem sumI_congr {T : Type} {f g : T → Int} : ∀ {l : List T}, (∀ x ∈ l, f x = g x) → sumI f l = sumI g l
  | [], _ => rfl
  | x :: l, h => by simp only [sumI, h x (by simp), sumI_congr (f := f) (g := g) (l := l) (fun y hy => h y (by simp [hy]))]

/-- A loop that adds up. -/
theorem each_sum {T ρ : Type} [Inhabited T] {F : Nat → Int → Option (Lr Int ρ)} {e : Int → ρ} (l : List T) (f : T → Int) (m : Int) (hm : 0 ≤ m) (hl : m * l.length ≤ 4611686018427387904) (hf : ∀ x ∈ l, 0 ≤ f x ∧ f x ≤ m)
    (hs : ∀ x k s, k < l.length → el l k = x → x ∈ l → 0 ≤ s → s ≤ 4611686018427387904 → F k s = some (.go (s + f x))) : eachN F e l.length 0 0 = some (e (sumI f l)) := by
  have h := each_fold (F := F) (e := e) l (fun r k s => 0 ≤ s ∧ s + m * r.length ≤ 4611686018427387904) (fun s x => s + f x) (fun x r k s hk hx hP => by
    have hmem : x ∈ l := hx ▸ el_mem hk
    have h2 := hf x hmem
    have h3 : 0 ≤ m * (r.length : Int) := Int.mul_nonneg hm (by omega)
    have h4 : m * ((x :: r).length : Int) = m * (r.length : Int) + m := by simp only [List.length_cons, Int.natCast_add, Int.mul_add, Int.natCast_one, Int.mul_one]
    rw [h4] at hP
    exact ⟨hs x k s hk hx hmem hP.1 (by omega), by omega, by omega⟩) 0 ⟨Int.le_refl _, by omega⟩
  rw [h, sumI_fold, Int.zero_add]
end Go.Proofs.YtjbonmmmcnpjiaaGreatDoor
