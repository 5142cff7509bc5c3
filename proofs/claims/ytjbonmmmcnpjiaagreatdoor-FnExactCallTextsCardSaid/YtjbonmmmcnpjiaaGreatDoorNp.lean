/- The second layer, part P: regions in which several things may make memory; an append to an empty row of one's own; a middle state of a code. No condition. -/
import Derived.Test.YtjbonmmmcnpjiaaGreatDoorNo
import Derived.Deep.AppendSrc
namespace Go.Proofs.YtjbonmmmcnpjiaaGreatDoor
open Go.RowKit

section
variable {P : Program} {ops : Array Oper} {QA : Act → World → Prop}

/-- A part of an order. -/
def ordP (ops : Array Oper) : List (Nat × Nat) → Array Bool → Bool
  | [], _ => true
  | (k, f) :: r, listed => (match f with
    | 0 => (Region.ready .any ops listed).contains k && Region.free .any ops listed k
    | f + 1 => Region.ready .any ops listed == [k] && (!Nat.beq f 1 || allB ops listed k)) && ordP ops r (listed.setIfInBounds k true)
def setAll (listed : Array Bool) : List (Nat × Nat) → Array Bool
  | [] => listed
  | k :: ks => setAll (listed.setIfInBounds k.1 true) ks

theorem wpR_part (hs : Region.noSelect ops = true) {K : Nat} : ∀ (ks : List (Nat × Nat)) (l : List (Oper × Nat)) (listed : Array Bool) (a : Act) (w : World), Down ops listed →
    ks.map (fun k => (ops[k.1]?.map fun o => (o, k.2))) = l.map some → ordP ops ks listed = true → wpO P ops (fun a w => Down ops (setAll listed ks) → wpR P ops QA K (setAll listed ks) a w) l a w → wpR P ops QA (K + ks.length) listed a w
  | [], [], _, _, w, hd, _, _, h => h w (Rel.refl w) hd
  | [], _ :: _, _, _, _, _, he, _, _ => by simp at he
  | _ :: _, [], _, _, _, _, he, _, _ => by simp at he
  | (k, f) :: ks, (o, f') :: l, listed, a, w, hd, he, hB, h => by
    simp only [List.map_cons, List.cons.injEq] at he
    obtain ⟨h0, he⟩ := he
    have ho : ops[k]? = some o ∧ f = f' := by
      cases hk : ops[k]? with
      | none => simp [hk] at h0
      | some o' => simp [hk] at h0; exact ⟨by rw [h0.1], h0.2⟩
    obtain ⟨ho, rfl⟩ := ho
    simp only [ordP, Bool.and_eq_true] at hB
    obtain ⟨hB1, hB2⟩ := hB
    cases f with
    | zero =>
      simp only [Bool.and_eq_true] at hB1
      obtain ⟨v, hy, hK⟩ := h
      have hrd : k ∈ Region.ready .any ops listed := by simpa using hB1.1
      exact wpR_first ho (Region.noSelect_spec hs) (K + ks.length) listed a w hd (Region.free_spec ho hB1.2) hrd hy (wpR_part hs ks l _ _ _ (hd.set hrd) he hB2 hK)
    | succ f =>
      simp only [Bool.and_eq_true] at hB1
      have hr : Region.ready .any ops listed = [k] := by simpa using hB1.1
      refine ⟨(fun h' => by rw [hr] at h'; cases h'), fun i hi w1 h1 => ?_⟩
      rw [hr] at hi
      have hik : i = k := by simpa using hi
      subst hik
      unfold opR
      rcases h with ⟨hw, hK⟩ | ⟨hw, hK⟩
      rotate_left
      · simp only [ho, hw, Bool.false_eq_true, if_false]
        exact wpR_part hs ks l _ _ _ (hd.set (by rw [hr]; simp)) he hB2 (hK w1 h1)
      simp only [ho, hw, if_true]
      refine wp_weak (fun _ _ ⟨h2, v, h3, h4⟩ => ⟨?_, v, h3, wpR_part hs ks l _ _ _ (hd.set (by rw [hr]; simp)) he hB2 h4⟩) (hK w1 h1)
      rcases h2 with h2 | h2
      · left
        have := hB1.2
        rw [h2] at this
        simpa using this
      · exact .inr h2
end

section
variable {P : Program} {n : Nat} {l : List Oper} {Q : Post} {env : Env} {w : World} {listed : Array Bool}

/-- What is left of a region, some things being listed. -/
def WF (P : Program) (n : Nat) (ops : Array Oper) (Q : Post) (k : Nat) (listed : Array Bool) (env : Env) (w : World) : Prop :=
  Down ops listed → ∀ a, Has n a env → wpR P ops (fun a w => lift n Q .normal a w) k listed a w

theorem wf_run (ks : List (Nat × Nat)) (K : Nat) {K' : Nat} (hk : Nat.beq (K + ks.length) K' = true) (hs : Region.noSelect l.toArray = true) (hB : ordP l.toArray ks listed = true) (he : (ks.all fun k => Nat.blt k.1 l.length) = true)
    (h : WO P n l.toArray (fun _ env w => WF P n l.toArray Q K (setAll listed ks) env w) (ordOps l ks) env w) : WF P n l.toArray Q K' listed env w := fun hd a ha => by
  rw [← Nat.eq_of_beq_eq_true hk]
  refine wpR_part hs ks _ listed a w hd (ordOps_eq l ks he) hB ?_
  have h1 := h a ha
  have key : ∀ (r : List (Oper × Nat)) (QA QB : Act → World → Prop) (_ : ∀ a w, QA a w → QB a w) (a : Act) (w : World), wpO P l.toArray QA r a w → wpO P l.toArray QB r a w := by
    intro r
    induction r with
    | nil => intro QA QB hq a w h w1 h1; exact hq _ _ (h w1 h1)
    | cons o r ih =>
      intro QA QB hq a w h
      obtain ⟨o, f⟩ := o
      cases f with
      | zero => obtain ⟨v, hy, hK⟩ := h; exact ⟨v, hy, ih QA QB hq _ _ hK⟩
      | succ f =>
        rcases h with h | h
        · exact .inl ⟨h.1, fun w1 h1 => wp_weak (fun _ _ ⟨h2, v, h3, h4⟩ => ⟨h2, v, h3, ih QA QB hq _ _ h4⟩) (h.2 w1 h1)⟩
        · exact .inr ⟨h.1, fun w1 h1 => ih QA QB hq _ _ (h.2 w1 h1)⟩
  exact key _ _ _ (fun a w ⟨env', ha', hq⟩ hd' => hq hd' a ha') _ _ h1

theorem wf_end (ks : List (Nat × Nat)) {K' : Nat} (hk : Nat.beq ks.length K' = true) (hs : Region.noSelect l.toArray = true) (hB : ordB l.toArray ks listed = true) (he : (ks.all fun k => Nat.blt k.1 l.length) = true)
    (h : WO P n l.toArray Q (ordOps l ks) env w) : WF P n l.toArray Q K' listed env w := fun hd a ha => by
  rw [← Nat.eq_of_beq_eq_true hk]
  exact wpR_of_wpO hs ks _ listed a w hd (ordOps_eq l ks he) hB (h a ha)

def forkP (P : Program) (n : Nat) (l : List Oper) (Q : Post) (K : Nat) (listed : Array Bool) (env : Env) (w : World) : List (Nat × Nat) → Prop
  | [] => True
  | p :: r => WO P n l.toArray (fun _ env w => WF P n l.toArray Q K (listed.setIfInBounds p.1 true) env w) (ordOps l [(p.1, p.2 + 1)]) env w ∧ forkP P n l Q K listed env w r

theorem forkP_get : ∀ {ks : List (Nat × Nat)} {K : Nat}, forkP P n l Q K listed env w ks → ∀ p ∈ ks, WO P n l.toArray (fun _ env w => WF P n l.toArray Q K (listed.setIfInBounds p.1 true) env w) (ordOps l [(p.1, p.2 + 1)]) env w
  | [], _, _, p, hp => by cases hp
  | q :: ks, K, h, p, hp => by
    rcases List.mem_cons.1 hp with rfl | hp
    · exact h.1
    · exact forkP_get h.2 p hp

/-- Several things may come next; each of them is followed. -/
theorem wf_fork (ks : List (Nat × Nat)) (K : Nat) {K' : Nat} (hk : Nat.beq (K + 1) K' = true) (hr : (Region.ready .any l.toArray listed == ks.map Prod.fst) = true) (hp : Nat.blt 0 ks.length = true)
    (hf : (ks.all fun p => Nat.blt p.1 l.length && (!Nat.beq p.2 1 || allB l.toArray listed p.1)) = true) (h : forkP P n l Q K listed env w ks) : WF P n l.toArray Q K' listed env w := fun hd a ha => by
  rw [← Nat.eq_of_beq_eq_true hk]
  have hr' : Region.ready .any l.toArray listed = ks.map Prod.fst := by simpa using hr
  refine ⟨fun h0 => ?_, fun i hi w1 h1 => ?_⟩
  · rw [hr'] at h0
    have h2 : ks = [] := by simpa using h0
    rw [h2] at hp
    cases hp
  · have hi' := hi
    rw [hr'] at hi
    obtain ⟨p, hp1, rfl⟩ := List.mem_map.1 hi
    have hf1 := List.all_eq_true.1 hf p hp1
    simp only [Bool.and_eq_true] at hf1
    have hlt : p.1 < l.length := by simpa using hf1.1
    have h2 := forkP_get h p hp1 a ha
    have ho : l.toArray[p.1]? = some l[p.1] := by simp [hlt]
    simp only [ordOps, List.getElem?_eq_getElem hlt] at h2
    unfold opR
    rcases h2 with ⟨hw, hK⟩ | ⟨hw, hK⟩
    rotate_left
    · simp only [ho, hw, Bool.false_eq_true, if_false]
      obtain ⟨env', ha', hq⟩ := hK w1 h1 w1 (Rel.refl w1)
      exact hq (hd.set hi') _ ha'
    simp only [ho, hw, if_true]
    refine wp_weak (fun a' w' ⟨h2, v, h3, h4⟩ => ⟨?_, v, h3, ?_⟩) (hK w1 h1)
    · rcases h2 with h2 | h2
      · left
        have := hf1.2
        rw [h2] at this
        simpa using this
      · exact .inr h2
    · obtain ⟨env', ha', hq⟩ := h4 w' (Rel.refl w')
      exact hq (hd.set hi') _ ha'

theorem wc_drawF {id : Nat} (hm : P.follows .mixedOrders = true) (h : WF P n l.toArray Q l.length (Array.replicate l.length false) env w) : WC P n (.region id l.toArray true) Q env w := fun a ha => by
  refine wp_region_any hm (wpAny_of_wpR (QA := fun a w => lift n Q .normal a w) (fun _ _ h => h) _ _ _ _ ?_)
  have h1 := h (Down.init _) a ha
  simpa using wpR_rel h1 (Rel.drew (Rel.refl w))

/-- A state in the middle of a code. -/
theorem wc_mid {c : Code} {α : Type} (E : α → Env) (Φ : α → World → Prop) (h1 : WC P n c (fun e env w' => e = .normal ∧ ∃ x, Cov env (E x) ∧ Φ x w') env w) (h2 : ∀ x w', Φ x w' → Q .normal (E x) w') : WC P n c Q env w := fun a ha =>
  wp_mono (h1 a ha) fun e a' w' hq => by
    obtain ⟨env', ha', he, x, hc, hΦ⟩ := hq
    subst he
    exact ⟨E x, ha'.lose hc.sub, h2 x w' hΦ⟩
theorem mid_c {α : Type} {E : α → Env} {Φ : α → World → Prop} (x : α) (hc : Cov env (E x)) (hΦ : Φ x w) : (fun (e : Exit) env w' => e = .normal ∧ ∃ x, Cov env (E x) ∧ Φ x w') .normal env w := ⟨rfl, x, hc, hΦ⟩
end

section
variable {P : Program} {n : Nat} {env : Env} {w : World} {ty : TypeId} {pos : String} {af : Array Edge} {w0 : Base} {m : List As} {rs : List Rd} {T : Type} {f : T → List Ce}

/-- An empty row, newly made. -/
theorem x_empty0 {K : Value → World → Prop} {d : Nat} {t e : TypeId} {size bytes : Nat} {z : Value} (ht : P.underlying t = some (.slice e)) (hs : Sz P e size bytes z) (hf : ∀ x, (f x).length = size) (hM : St w0 m rs w)
    (h : ∀ (b : Nat) w', Rel w w' → St w0 (oC (cSl size f ([] : List T)) (Sv.v ⟨some ⟨b, 0, none⟩, 0, 0⟩) :: m) rs w' → K (Sv.v ⟨some ⟨b, 0, none⟩, 0, 0⟩) w') : Ex P n env w ⟨some d, .buildSlice t 0 #[], ty, pos, af, none⟩ K := by
  refine exI (v := Sv.v ⟨some ⟨w.heap.size, 0, none⟩, 0, 0⟩) (w' := w.alloc (.cells #[] e)) (fun a ha => ?_) (h _ _ (Rel.alloc w _) ?_)
  · simp [execOp, Instr.buildSlice, run_underlying ht, hs.run, Instr.fill, Go.newRow]
    rw [show (Array.range 0).map (fun _ => (default : Value)) = #[] from by simp]
    exact ⟨rfl, rfl⟩
  · exact St.newRow (own := []) (us := []) hM e hf rfl (by simp) (fun _ => zN) (by simp [maxLen])

/-- Appending to a row without room makes a new one: nothing old is written. -/
theorem x_append0 {K : Value → World → Prop} {d : Nat} {x y : Operand} {t e : TypeId} {size bytes : Nat} {z xv : Value} {b : Nat} {M : List T} {S : Bs} (ht : P.underlying t = some (.slice e)) (hs : Sz P e size bytes z) (hx : ev env x = some xv) (hsv : ev env y = some (Sv.v ⟨some ⟨b, 0, none⟩, 0, 0⟩))
    (hsrc : (cSl size f M).rd S w xv) (hfl : FlatE f) (hM : St w0 (oC (cSl size f ([] : List T)) (Sv.v ⟨some ⟨b, 0, none⟩, 0, 0⟩) :: m) rs w) (h40 : 0 + M.length ≤ 1099511627776) (hby : Nat.ble bytes 127 = true)
    (h : ∀ (s' : Sv) w', Rel w w' → St w0 (oC (cSl size f ([] ++ M)) s'.v :: m) rs w' → K (s'.v) w') :
    Ex P n env w ⟨some d, .call { callee := .builtin .append, args := #[y, x], argTypes := #[t, t] }, ty, pos, af, none⟩ K := by
  obtain ⟨xs, h1, h2⟩ := Cs.src ht hsrc
  have hby' : bytes ≤ 127 := by simpa using hby
  have hbb : (0 + M.length) * bytes ≤ 140737488355328 := by
    have := Nat.mul_le_mul h40 hby'
    omega
  obtain ⟨s', w', hr, h3⟩ := St.app (tyy := ty) (own := []) (M := M) (L := ([] : List T)) ht hs hM h1 rfl (rdAll_len h2).symm (flat_cells hfl (fun c hc => by
    obtain ⟨a, _, ha⟩ := List.mem_flatMap.1 hc
    exact hfl a c ha) h2 w) (by simp only [maxLen, List.length_nil]; omega) (by simpa using hbb)
  obtain ⟨i, hi, hz, hsz, hbt⟩ := hs.info
  subst hsz
  have hrel : Rel w w' := by
    by_cases hn : M.length = 0
    · have hr2 := run_append_room_src (P := P) w t t ty e i ht hi b 0 0 0 xv M.length xs h1 (by omega) (fun j hj => by
        have := h1.newsLen; rw [hn] at this; omega) (fun j hj => by
        have := h1.newsLen; rw [hn] at this; omega)
      have hxs : xs = [] := List.eq_nil_of_length_eq_zero (by have := h1.newsLen; rw [hn] at this; omega)
      rw [show (#[Sv.v ⟨some ⟨b, 0, none⟩, 0, 0⟩, xv] : Array Value) = #[.slice (some ⟨b, 0, none⟩) 0 0, xv] from rfl, hr2, hxs] at hr
      obtain ⟨_, rfl⟩ : _ ∧ w.setCells b (0 + 0 * i.size) [] = w' := by simpa using hr
      exact Rel.refl w
    · have hr2 := run_append_grow_src (P := P) w t t ty e i z ht hi hz (some ⟨b, 0, none⟩) 0 0 [] (run_firstCells_some _ _ _ _ _ _ _ (by simp) (fun j u hj => by simp at hj)) xv M.length xs h1 (by omega) (by omega) (by rw [hbt]; exact growslice_fits (by omega) hbb)
      rw [show (#[Sv.v ⟨some ⟨b, 0, none⟩, 0, 0⟩, xv] : Array Value) = #[.slice (some ⟨b, 0, none⟩) 0 0, xv] from rfl, hr2] at hr
      obtain ⟨_, rfl⟩ : _ ∧ (w.drew.alloc (.cells (([] ++ xs).toArray ++ Builtin.zeroCells z.cells (grownCap w (0 + M.length) 0 e - (0 + M.length))) e)) = w' := by simpa using hr
      exact (Rel.refl w).drew.trans (Rel.alloc _ _)
  refine exI (v := s'.v) (w' := w') (fun a ha => ?_) (h s' w' hrel h3)
  simp [execOp, resolve, invoke, builtin, ha.ev hsv, ha.ev hx, hr]
end

section
variable {P : Program} {n : Nat} {env : Env} {w : World} {ty : TypeId} {pos : String} {af : Array Edge} {d : Option Tmp} {g : Option (Nat × Bool)}
theorem r_field {x : Operand} {t : TypeId} {fs : Array Field} {f : Field} {i : Nat} {cs : Array Value} {v : Value} (ht : P.underlying t = some (.struct fs)) (hi : fs[i]? = some f) (hx : ev env x = some (.agg cs))
    (ha : ∀ w, (isAgg f.type).run P w = .ok false w) (hv : cs[f.offset]? = some v) : Runs P n env w ⟨d, .field t x i, ty, pos, af, g⟩ v w := fun a h => by
  simp [execOp, h.ev hx, Instr.field, run_underlying ht, hi, asAgg, part, ha, hv]
theorem r_fieldS {x : Operand} {t : TypeId} {fs : Array Field} {f : Field} {i : Nat} {cs vs : Array Value} {size bytes : Nat} {z : Value} (ht : P.underlying t = some (.struct fs)) (hi : fs[i]? = some f) (hx : ev env x = some (.agg cs))
    (ha : ∀ w, (isAgg f.type).run P w = .ok true w) (hs : Sz P f.type size bytes z) (hv : cs.extract f.offset (f.offset + size) = vs) : Runs P n env w ⟨d, .field t x i, ty, pos, af, g⟩ (.agg vs) w := fun a h => by
  simp [execOp, h.ev hx, Instr.field, run_underlying ht, hi, asAgg, part, ha, hs.run, hv]
theorem ag_int {t : TypeId} {k : IntKind} (ht : P.underlying t = some (.int k)) (w : World) : (isAgg t).run P w = .ok false w := by simp [isAgg, run_underlying ht]
theorem ag_bool {t : TypeId} (ht : P.underlying t = some .bool) (w : World) : (isAgg t).run P w = .ok false w := by simp [isAgg, run_underlying ht]
theorem ag_string {t : TypeId} (ht : P.underlying t = some .string) (w : World) : (isAgg t).run P w = .ok false w := by simp [isAgg, run_underlying ht]
theorem ag_slice {t e : TypeId} (ht : P.underlying t = some (.slice e)) (w : World) : (isAgg t).run P w = .ok false w := by simp [isAgg, run_underlying ht]
theorem ag_struct {t : TypeId} {fs : Array Field} (ht : P.underlying t = some (.struct fs)) (w : World) : (isAgg t).run P w = .ok true w := by simp [isAgg, run_underlying ht]
end
end Go.Proofs.YtjbonmmmcnpjiaaGreatDoor
