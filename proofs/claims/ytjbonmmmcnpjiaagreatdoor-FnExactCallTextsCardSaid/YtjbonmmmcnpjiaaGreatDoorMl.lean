/- Plain laws: loops that copy, compare, weigh, mark and look at data. No condition. -/
import Derived.Test.YtjbonmmmcnpjiaaGreatDoorNs
namespace Go.Proofs.YtjbonmmmcnpjiaaGreatDoor

section
variable {α : Type}
theorem xg_of {p : Prop} [Decidable p] {x : Option α} (h : p) : xg p x = x := if_pos h
theorem xg_no {p : Prop} [Decidable p] {x : Option α} (h : ¬ p) : xg p x = none := if_neg h
theorem xg_and {p q : Prop} [Decidable p] [Decidable q] {x : Option α} (h : p) (k : q) : xg (p ∧ q) x = x := if_pos ⟨h, k⟩
theorem xg_I {n : Int} {x : Option α} (h : -9223372036854775808 ≤ n) (k : n ≤ 9223372036854775807) : xg (inI n) x = x := if_pos ⟨h, k⟩
theorem cd_t {p : Prop} [Decidable p] {x y : α} (h : p) : (bif decide p then x else y) = x := by rw [decide_eq_true h]; rfl
theorem cd_f {p : Prop} [Decidable p] {x y : α} (h : ¬ p) : (bif decide p then x else y) = y := by rw [decide_eq_false h]; rfl
theorem cd_n {c : Bool} {x y : α} : (bif !c then x else y) = (bif c then y else x) := by cases c <;> rfl
theorem cd_if {p : Prop} [Decidable p] {x y : α} : (bif decide p then x else y) = if p then x else y := by by_cases h : p <;> simp [h]
theorem cd_T {x y : α} : (bif true then x else y) = x := rfl
theorem cd_F {x y : α} : (bif false then x else y) = y := rfl
end

section
variable {T : Type} [Inhabited T]
theorem el_set {l : List T} {i : Nat} {y : T} (h : i < l.length) : el (l.set i y) i = y := by unfold el; simp [List.getD_eq_getElem?_getD, h]
theorem el_mid (p : List T) (x : T) (l : List T) : el (p ++ x :: l) p.length = x := by unfold el; simp [List.getD_eq_getElem?_getD]
omit [Inhabited T] in
theorem set_mid (p : List T) (x y : T) (l : List T) : (p ++ x :: l).set p.length y = p ++ y :: l := by simp
theorem el_mem {l : List T} {i : Nat} (h : i < l.length) : el l i ∈ l := by rw [el_eq h]; exact List.getElem_mem h
end

-- Sizes

/- what any argument keeps -/
def wfI (n : Int) : Prop := inI n
def wfB (_ : Bool) : Prop := True
def wfY (_ : UInt8) : Prop := True
def wfT (s : ByteArray) : Prop := s.size ≤ 9223372036854775807
def wfL {T : Type} (p : T → Prop) (l : List T) : Prop := l.length ≤ 9223372036854775807 ∧ ∀ x ∈ l, p x
/- small -/
def smI (_ : Int) : Prop := True
def smB (_ : Bool) : Prop := True
def smY (_ : UInt8) : Prop := True
def smT (s : ByteArray) : Prop := s.size ≤ 1099511627776
def smL {T : Type} (p : T → Prop) (l : List T) : Prop := l.length ≤ 1099511627776 ∧ ∀ x ∈ l, p x

def sumL {T : Type} (c : T → Nat) : List T → Nat
  | [] => 0
  | x :: l => c x + sumL c l

def mkL {T : Type} (c : T → Nat) (mk : T → Int → T) : List T → Int → List T
  | [], _ => []
  | x :: l, k => mk x k :: mkL c mk l (k + c x)

theorem mkL_len {T : Type} {c : T → Nat} {mk : T → Int → T} : ∀ {l : List T} {k : Int}, (mkL c mk l k).length = l.length
  | [], _ => rfl
  | _ :: l, k => by simp [mkL, mkL_len (l := l)]

theorem sumL_one {T : Type} {c : T → Nat} (h : ∀ x, 1 ≤ c x) : ∀ (l : List T), l.length ≤ sumL c l
  | [] => Nat.le_refl _
  | x :: l => by have := sumL_one h l; have := h x; simp only [List.length_cons, sumL]; omega
theorem sumL_mem {T : Type} {c : T → Nat} : ∀ {l : List T} {x : T}, x ∈ l → c x ≤ sumL c l
  | y :: l, x, h => by
    rcases List.mem_cons.1 h with rfl | h
    · simp only [sumL]; omega
    · have := sumL_mem (c := c) h; simp only [sumL]; omega
theorem sumL_le {T : Type} {c d : T → Nat} {n : Nat} (h : ∀ x, c x ≤ n * d x) : ∀ (l : List T), sumL c l ≤ n * sumL d l
  | [] => Nat.zero_le _
  | x :: l => by have := sumL_le h l; have := h x; simp only [sumL, Nat.mul_add]; omega

def lenL {T : Type} (c : T → Nat) (l : List T) : Nat := l.length + sumL c l
theorem lenL_eq {T : Type} (c : T → Nat) (l : List T) : lenL c l = l.length + sumL c l := rfl
theorem lenL_z {T : Type} {c : T → Nat} (h : ∀ x, c x = 0) (l : List T) : lenL c l = l.length := by
  have : sumL c l = 0 := by
    induction l with
    | nil => rfl
    | cons x l ih => simp only [sumL, h, ih]
  unfold lenL; omega
def szI (_ : Int) : Nat := 0
def szB (_ : Bool) : Nat := 0
def szY (_ : UInt8) : Nat := 0
def szT (s : ByteArray) : Nat := s.size
def cnI (_ : Int) : Nat := 1
def cnB (_ : Bool) : Nat := 1
def cnT (_ : ByteArray) : Nat := 1
def cnY (_ : UInt8) : Nat := 1
def mkI (_ : Int) (k : Int) : Int := k
def mkB (_ : Bool) (k : Int) : Bool := decide (k % 3 = 0)
def mkY (_ : UInt8) (k : Int) : UInt8 := y8 k
theorem y_eq (a b : UInt8) : decide ((a.toNat : Int) = (b.toNat : Int)) = decide (a = b) := decide_eq_decide.2 ⟨fun h => UInt8.toNat_inj.1 (by omega), fun h => by rw [h]⟩
def mdig : Nat → Int → ByteArray → ByteArray
  | 0, _, s => s
  | f + 1, n, s => if 0 < n then mdig f (n / 10) ((⟨[y8 (48 + (n % 10))].toArray⟩ : ByteArray) ++ s) else s
def mkTx (k : Int) : ByteArray := if k ≤ 0 then ⟨#[109, 48]⟩ else (⟨#[109]⟩ : ByteArray) ++ mdig k.toNat k ⟨#[]⟩
def mkT (_ : ByteArray) (k : Int) : ByteArray := mkTx k

theorem smz_I (x : Int) (_ : szI x ≤ 1099511627776) : smI x := trivial
theorem smz_B (x : Bool) (_ : szB x ≤ 1099511627776) : smB x := trivial
theorem smz_Y (x : UInt8) (_ : szY x ≤ 1099511627776) : smY x := trivial
theorem smz_T (x : ByteArray) (h : szT x ≤ 1099511627776) : smT x := h
theorem smz_L {T : Type} {c : T → Nat} {p : T → Prop} (h : ∀ x, c x ≤ 1099511627776 → p x) (l : List T) (hl : lenL c l ≤ 1099511627776) : smL p l := by
  unfold lenL at hl
  exact ⟨by omega, fun x hx => h x (by have := sumL_mem (c := c) hx; omega)⟩
theorem cnz_I (x : Int) : cnI x ≤ 64 * (1 + szI x) := by unfold cnI; omega
theorem cnz_B (x : Bool) : cnB x ≤ 64 * (1 + szB x) := by unfold cnB; omega
theorem cnz_Y (x : UInt8) : cnY x ≤ 64 * (1 + szY x) := by unfold cnY; omega
theorem cnz_T (x : ByteArray) : cnT x ≤ 64 * (1 + szT x) := by unfold cnT; omega
theorem cnz_S {T : Type} {c d : T → Nat} (h : ∀ x, c x ≤ 64 * (1 + d x)) : ∀ (l : List T), sumL c l ≤ 64 * lenL d l
  | [] => Nat.zero_le _
  | x :: l => by
    have := cnz_S h l
    have := h x
    simp only [lenL, sumL, List.length_cons] at *
    omega
theorem cnz_L {T : Type} {c d : T → Nat} (h : ∀ x, c x ≤ 64 * (1 + d x)) (l : List T) : sumL c l ≤ 64 * (1 + lenL d l) := by have := cnz_S h l; omega
theorem eqstep {p q : Prop} [Decidable p] [Decidable q] {X : Option Bool} (h : X = some (decide q)) : (bif !decide p then some false else X) = some (decide (p ∧ q)) := by
  by_cases hp : p
  · simp [hp, h]
  · simp [hp]

-- Loops of the laws

section
variable {T : Type} [Inhabited T]

theorem eqLoop [DecidableEq T] (a b : List T) (f : Int → Option (Lr Int (Sum Unit Unit))) (hl : a.length = b.length)
    (hgo : ∀ i : Nat, i < a.length → i < b.length → f i = bif decide (el a i = el b i) then some (.go ((i : Int) + 1)) else some (.out (.inr ()))) (hend : f (a.length : Int) = some (.out (.inl ()))) :
    iter f 0 = some (bif decide (a = b) then .inl () else .inr ()) := by
  have key : ∀ (q r p p' : List T), p ++ q = a → p' ++ r = b → p.length = p'.length → q.length = r.length → iter f (p.length : Int) = some (bif decide (q = r) then .inl () else .inr ()) := by
    intro q
    induction q with
    | nil =>
      intro r p p' ha hb h1 h2
      have : r = [] := List.eq_nil_of_length_eq_zero h2.symm
      subst this
      simp only [List.append_nil] at ha
      subst ha
      rw [iter_eq, hend]; rfl
    | cons x q ih =>
      intro r p p' ha hb h1 h2
      cases r with
      | nil => simp at h2
      | cons y r =>
        have ea : el a p.length = x := by rw [← ha]; exact el_mid p x q
        have eb : el b p.length = y := by rw [← hb, h1]; exact el_mid p' y r
        have la : p.length < a.length := by rw [← ha]; simp
        rw [iter_eq, hgo p.length la (hl ▸ la), ea, eb]
        by_cases hxy : x = y
        · subst hxy
          rw [cd_t rfl]
          show iter f _ = _
          have := ih r (p ++ [x]) (p' ++ [x]) (by simpa using ha) (by simpa using hb) (by simp [h1]) (by simpa using h2)
          rw [List.length_append, List.length_singleton] at this
          rw [show (p.length : Int) + 1 = ((p.length + 1 : Nat) : Int) by omega, this]
          simp
        · rw [cd_f hxy]
          simp [Lr.on, hxy]
  have := key a b [] [] rfl rfl rfl hl
  simpa using this

theorem toLoop (a : List T) (d : T) (f : Int × List T → Option (Lr (Int × List T) (List T)))
    (hgo : ∀ (i : Nat) (l : List T), i < a.length → i < l.length → f ((i : Int), l) = some (.go ((i : Int) + 1, l.set i (el a i)))) (hend : ∀ l, f ((a.length : Int), l) = some (.out l)) :
    iter f (0, List.replicate a.length d) = some a := by
  have key : ∀ (q p : List T), p ++ q = a → iter f ((p.length : Int), p ++ List.replicate q.length d) = some a := by
    intro q
    induction q with
    | nil =>
      intro p hp
      simp only [List.append_nil] at hp
      subst hp
      rw [iter_eq, hend]; simp [Lr.on]
    | cons x q ih =>
      intro p hp
      have la : p.length < a.length := by rw [← hp]; simp
      have ea : el a p.length = x := by rw [← hp]; exact el_mid p x q
      rw [iter_eq, hgo p.length _ la (by simp), ea, List.length_cons, List.replicate_succ, set_mid]
      show iter f _ = _
      have := ih (p ++ [x]) (by simpa using hp)
      rw [List.length_append, List.length_singleton, List.append_assoc] at this
      exact this
  exact key a [] rfl

theorem szLoop (c : T → Nat) (a : List T) (f : Int × Int → Option (Lr (Int × Int) (Sum Int Int)))
    (hgo : ∀ (i : Nat) (y : Int), i < a.length → 0 ≤ y → y ≤ 4611686018427387904 → f (y, (i : Int)) = if (c (el a i) : Int) ≤ y then some (.go (y - c (el a i), (i : Int) + 1)) else some (.out (.inr (-1)))) (hend : ∀ y, f (y, (a.length : Int)) = some (.out (.inl y))) (y : Int) (h0 : 0 ≤ y) (h1 : y ≤ 4611686018427387904) :
    iter f (y, 0) = some (if (sumL c a : Int) ≤ y then .inl (y - sumL c a) else .inr (-1)) := by
  have key : ∀ (q p : List T) (y : Int), p ++ q = a → 0 ≤ y → y ≤ 4611686018427387904 → iter f (y, (p.length : Int)) = some (if (sumL c q : Int) ≤ y then .inl (y - sumL c q) else .inr (-1)) := by
    intro q
    induction q with
    | nil =>
      intro p y hp hy _
      simp only [List.append_nil] at hp
      subst hp
      rw [iter_eq, hend]; simp [Lr.on, sumL, hy]
    | cons x q ih =>
      intro p y hp hy hy'
      have la : p.length < a.length := by rw [← hp]; simp
      have ea : el a p.length = x := by rw [← hp]; exact el_mid p x q
      rw [iter_eq, hgo p.length y la hy hy', ea]
      by_cases hc : (c x : Int) ≤ y
      · rw [if_pos hc]
        show iter f _ = _
        have := ih (p ++ [x]) (y - c x) (by simpa using hp) (by omega) (by omega)
        rw [List.length_append, List.length_singleton] at this
        rw [show (p.length : Int) + 1 = ((p.length + 1 : Nat) : Int) by omega, this]
        have hs : sumL c (x :: q) = c x + sumL c q := rfl
        by_cases h2 : (sumL c q : Int) ≤ y - c x
        · rw [if_pos h2, if_pos (by omega), hs]; congr 2; omega
        · rw [if_neg h2, if_neg (by omega)]
      · rw [if_neg hc]
        show some (Sum.inr (-1)) = _
        have hs : sumL c (x :: q) = c x + sumL c q := rfl
        rw [if_neg (by omega)]
  exact key a [] y rfl h0 h1

theorem markLoop (p : T → Prop) (c : T → Nat) (mk : T → Int → T) (f : Int × Int × List T → Option (Lr (Int × Int × List T) (Int × List T)))
    (hgo : ∀ (k : Int) (i : Nat) (l : List T), i < l.length → l.length ≤ 2305843009213693952 → 0 ≤ k → p (el l i) → k + c (el l i) ≤ 2305843009213693952 → f (k, (i : Int), l) = some (.go (k + c (el l i), (i : Int) + 1, l.set i (mk (el l i) k))))
    (hend : ∀ k l, f (k, (l.length : Int), l) = some (.out (k, l))) (a : List T) (k : Int) (hp : ∀ x ∈ a, p x) (hl : a.length ≤ 2305843009213693952) (h0 : 0 ≤ k) (hk : k + sumL c a ≤ 2305843009213693952) :
    iter f (k, 0, a) = some (k + sumL c a, mkL c mk a k) := by
  have key : ∀ (q r : List T) (k : Int), (r ++ q).length ≤ 2305843009213693952 → (∀ x ∈ q, p x) → 0 ≤ k → k + sumL c q ≤ 2305843009213693952 → iter f (k, (r.length : Int), r ++ q) = some (k + sumL c q, r ++ mkL c mk q k) := by
    intro q
    induction q with
    | nil =>
      intro r k _ _ _ _
      rw [iter_eq, List.append_nil, hend]
      simp [Lr.on, sumL, mkL]
    | cons x q ih =>
      intro r k hr hq hk0 hk1
      simp only [sumL] at hk1 ⊢
      have ea : el (r ++ x :: q) r.length = x := el_mid r x q
      rw [iter_eq, hgo k r.length _ (by simp) hr hk0 (by rw [ea]; exact hq x (by simp)) (by rw [ea]; omega), ea, set_mid]
      show iter f _ = _
      have := ih (r ++ [mk x k]) (k + c x) (by simpa using hr) (fun y hy => hq y (by simp [hy])) (by omega) (by omega)
      rw [List.length_append, List.length_singleton, List.append_assoc] at this
      simp only [List.singleton_append] at this
      rw [show (r.length : Int) + 1 = ((r.length + 1 : Nat) : Int) by omega, this]
      simp only [mkL, List.append_assoc, List.singleton_append]
      rw [show k + (c x : Int) + (sumL c q : Int) = k + ((c x + sumL c q : Nat) : Int) by omega]
  exact key a [] k hl hp h0 hk

theorem heldLoop (p : T → Prop) (c : T → Nat) (mk : T → Int → T) (b : List T) (f : Int × Int → Option (Lr (Int × Int) (Sum Int Int)))
    (hgo : ∀ (k : Int) (i : Nat) (x : T), i < b.length → b.length ≤ 2305843009213693952 → 0 ≤ k → p x → k + c x ≤ 2305843009213693952 → el b i = mk x k → f (k, (i : Int)) = some (.go (k + c x, (i : Int) + 1)))
    (hend : ∀ k, f (k, (b.length : Int)) = some (.out (.inl k))) (a : List T) (k : Int) (hb : b = mkL c mk a k) (hp : ∀ x ∈ a, p x) (hl : a.length ≤ 2305843009213693952) (h0 : 0 ≤ k) (hk : k + sumL c a ≤ 2305843009213693952) :
    iter f (k, 0) = some (.inl (k + sumL c a)) := by
  have key : ∀ (q r : List T) (k : Int), r ++ mkL c mk q k = b → (∀ x ∈ q, p x) → 0 ≤ k → k + sumL c q ≤ 2305843009213693952 → iter f (k, (r.length : Int)) = some (.inl (k + sumL c q)) := by
    intro q
    induction q with
    | nil =>
      intro r k hr _ _ _
      simp only [mkL, List.append_nil] at hr
      rw [hr, iter_eq, hend]
      simp [Lr.on, sumL]
    | cons x q ih =>
      intro r k hr hq hk0 hk1
      simp only [sumL] at hk1 ⊢
      simp only [mkL] at hr
      have ea : el b r.length = mk x k := by rw [← hr]; exact el_mid r _ _
      have lb : b.length ≤ 2305843009213693952 := by rw [hb, mkL_len]; exact hl
      rw [iter_eq, hgo k r.length x (by rw [← hr]; simp) lb hk0 (hq x (by simp)) (by omega) ea]
      show iter f _ = _
      have := ih (r ++ [mk x k]) (k + c x) (by simpa using hr) (fun y hy => hq y (by simp [hy])) (by omega) (by omega)
      rw [List.length_append, List.length_singleton] at this
      rw [show (r.length : Int) + 1 = ((r.length + 1 : Nat) : Int) by omega, this]
      rw [show k + (c x : Int) + (sumL c q : Int) = k + ((c x + sumL c q : Nat) : Int) by omega]
  exact key a [] k (by simpa using hb.symm) hp h0 hk
end
end Go.Proofs.YtjbonmmmcnpjiaaGreatDoor
