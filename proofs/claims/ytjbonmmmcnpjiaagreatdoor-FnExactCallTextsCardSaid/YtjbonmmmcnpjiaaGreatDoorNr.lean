/- The second layer, part R: regions in which something that only looks may come before or behind something that writes. No condition. -/
import Derived.Test.YtjbonmmmcnpjiaaGreatDoorNq
namespace Go.Proofs.YtjbonmmmcnpjiaaGreatDoor
open Go.RowKit

section
variable {P : Program} {ops : Array Oper} {QA : Act → World → Prop} {I : World → Prop}

/-- As wpR; what was walked ahead of its time ('moved') is kept apart from what is listed. -/
def wpM (P : Program) (ops : Array Oper) (QA : Act → World → Prop) (I : World → Prop) : Nat → Array Bool → Array Bool → Act → World → Prop
  | 0, listed, _, a, w => (∀ w1, Rel w w1 → I w1) ∧ Region.ready .any ops listed = [] ∧ ∀ w1, Rel w w1 → QA a w1
  | k + 1, listed, moved, a, w => (∀ w1, Rel w w1 → I w1) ∧ (Region.ready .any ops listed = [] → ∀ w1, Rel w w1 → QA a w1) ∧
      ∀ i ∈ Region.ready .any ops listed, ∀ w1, Rel w w1 → opR P ops (allB ops moved i) i (wpM P ops QA I k (listed.setIfInBounds i true) moved) a w1

theorem wpM_rel : ∀ {k : Nat} {listed moved : Array Bool} {a : Act} {w w' : World}, wpM P ops QA I k listed moved a w → Rel w w' → wpM P ops QA I k listed moved a w'
  | 0, _, _, _, _, _, h, hr => ⟨fun w1 h1 => h.1 w1 (hr.trans h1), h.2.1, fun w1 h1 => h.2.2 w1 (hr.trans h1)⟩
  | _ + 1, _, _, _, _, _, h, hr => ⟨fun w1 h1 => h.1 w1 (hr.trans h1), fun h0 w1 h1 => h.2.1 h0 w1 (hr.trans h1), fun i hi w1 h1 => h.2.2 i hi w1 (hr.trans h1)⟩

theorem opR_z {z z' : Bool} {i : Nat} {a : Act} {w : World} {K K' : Act → World → Prop} (hz : z = true → z' = true) (h : ∀ a w, K a w → K' a w) (hh : opR P ops z i K a w) : opR P ops z' i K' a w := by
  unfold opR at *
  split
  · rename_i ho; simp only [ho] at hh
  · rename_i o ho
    simp only [ho] at hh
    split
    · rename_i hw
      simp only [hw, if_true] at hh
      exact wp_weak (fun _ _ ⟨h1, v, h2, h3⟩ => ⟨h1.imp hz id, v, h2, h _ _ h3⟩) hh
    · rename_i hw; simp only [hw] at hh; exact h _ _ hh

theorem wpM_less {i : Nat} : ∀ {k : Nat} {listed moved : Array Bool} {a : Act} {w : World}, wpM P ops QA I k listed (moved.setIfInBounds i true) a w → wpM P ops QA I k listed moved a w
  | 0, _, _, _, _, h => h
  | _ + 1, _, _, _, _, h => ⟨h.1, h.2.1, fun j hj w1 h1 => opR_z allB_less (fun _ _ h2 => wpM_less h2) (h.2.2 j hj w1 h1)⟩

theorem wpAny_of_wpM {Q : Exit → Act → World → Prop} (hQ : ∀ a w, QA a w → Q .normal a w) : ∀ (k : Nat) (listed moved : Array Bool) (a : Act) (w : World), wpM P ops QA I k listed moved a w → wpAny P .any ops Q k listed a w
  | 0, _, _, _, w, h => ⟨h.2.1, hQ _ _ (h.2.2 w (Rel.refl w))⟩
  | k + 1, listed, moved, a, w, h => ⟨fun h0 => hQ _ _ (h.2.1 h0 w (Rel.refl w)), fun i hi => by
      have h1 := h.2.2 i hi w (Rel.refl w)
      unfold opR at h1
      unfold wpOp
      split
      · rename_i ho; simp only [ho] at h1
      · rename_i o ho
        simp only [ho] at h1
        split
        · rename_i hw
          simp only [hw, if_true] at h1
          exact .inl (wp_weak (fun _ _ ⟨_, _, _, h3⟩ => wpAny_of_wpM hQ k _ _ _ _ h3) h1)
        · rename_i hw; simp only [hw] at h1; exact wpAny_of_wpM hQ k _ _ _ _ h1⟩

theorem wpM_first {i : Nat} {o : Oper} {v : Value} (hi : ops[i]? = some o) (hsel : ∀ (j : Nat) (o : Oper) cs b, ops[j]? = some o → o.op ≠ .select cs b) :
    ∀ (k : Nat) (listed moved : Array Bool) (a : Act) (w : World), Down ops listed → moved.size = listed.size →
      (∀ j oj, ops[j]? = some oj → j ≠ i → listed.getD j true = false → (∀ e ∈ oj.after, Region.binds .any e = true → e.on ≠ i) → o.apart ops oj = true) →
      i ∈ Region.ready .any ops listed → yieldsR P ops o a w v →
      wpM P ops QA I k (listed.setIfInBounds i true) (moved.setIfInBounds i true) (a.put o.dst v) w → wpM P ops QA I (k + 1) listed moved a w := by
  intro k
  induction k with
  | zero =>
    intro listed moved a w _ _ _ hr hy H
    refine ⟨H.1, fun h => (by rw [h] at hr; cases hr), fun j hj w1 h1 => ?_⟩
    by_cases hji : j = i
    · subst hji; exact yieldsR_opR hi hy h1 fun w' hw' => wpM_less (wpM_rel H (h1.trans hw'))
    · have := ready_mono hj hji
      rw [H.2.1] at this
      cases this
  | succ k ih =>
    intro listed moved a w hd hsz hfree hr hy H
    refine ⟨H.1, fun h => (by rw [h] at hr; cases hr), fun j hj w1 h1 => ?_⟩
    by_cases hji : j = i
    · subst hji; exact yieldsR_opR hi hy h1 fun w' hw' => wpM_less (wpM_rel H (h1.trans hw'))
    · have h2 := H.2.2 j (ready_mono hj hji) w1 h1
      obtain ⟨hjun, oj, hoj, hall⟩ := mem_ready.1 hj
      have hnot : ∀ e ∈ oj.after, Region.binds .any e = true → e.on ≠ i := fun e he hb heq => by
        have h1 := hall e he hb
        have h0 := (mem_ready.1 hr).1
        rw [heq] at h1
        rcases Nat.lt_or_ge i listed.size with h' | h'
        · simp [h'] at h0 h1; rw [h0] at h1; cases h1
        · simp [Array.getElem?_eq_none h'] at h1
      have hap := hfree j oj hoj hji hjun hnot
      have hnl : allB ops (moved.setIfInBounds i true) j = true → isMv o = true := fun hl => by
        have h9 := (mem_ready.1 hr).1
        rcases Nat.lt_or_ge i listed.size with h' | h'
        · have h'' : i < moved.size := by omega
          rcases allB_spec hd hl hoj ((Array.getElem?_eq_some_iff.1 hi).1) (by simp [h'']) hall with h8 | h8
          · unfold mvB at h8; simpa only [hi] using h8
          · simp [h'] at h8 h9; rw [h9] at h8; cases h8
        · simp [Array.getElem?_eq_none h'] at h9
      obtain ⟨p1, p2, p3⟩ := Oper.apart_spec hap
      have hfree' : ∀ m om, ops[m]? = some om → m ≠ i → (listed.setIfInBounds j true).getD m true = false →
          (∀ e ∈ om.after, Region.binds .any e = true → e.on ≠ i) → o.apart ops om = true := fun m om hm hmi hun hno => by
        refine hfree m om hm hmi ?_ hno
        by_cases hjm : j = m
        · subst hjm; exact hjun
        · rw [getD_set_ne true hjm] at hun; exact hun
      have hsi := fun cs b => hsel i o cs b hi
      have hsj := fun cs b => hsel j oj cs b hoj
      have keep : ∀ u w2, (isMv o = true ∨ Rel w1 w2) → yieldsR P ops o (a.put oj.dst u) w2 v := fun u w2 h3 => by
        unfold yieldsR at *
        rw [wanted_put o a oj.dst u p3]
        rcases hy with ⟨hw, hq⟩ | hy
        · rcases h3 with h3 | h3
          · exact .inl ⟨hw, quietR_mv h3 (quietR_put hsi p3 (fun d hd => fun hd' => p2 d hd' hd) hq (Rel.refl w))⟩
          · exact .inl ⟨hw, quietR_put hsi p3 (fun d hd => fun hd' => p2 d hd' hd) hq (h1.trans h3)⟩
        · exact .inr hy
      have step : ∀ u w2, (isMv o = true ∨ Rel w1 w2) → wpM P ops QA I k ((listed.setIfInBounds i true).setIfInBounds j true) (moved.setIfInBounds i true) ((a.put o.dst v).put oj.dst u) w2 → wpM P ops QA I (k + 1) (listed.setIfInBounds j true) moved (a.put oj.dst u) w2 := fun u w2 h3 h4 => by
        refine ih (listed.setIfInBounds j true) moved _ _ (hd.set hj) (by simpa using hsz) hfree' (ready_mono hr (Ne.symm hji)) (keep u w2 h3) ?_
        rw [Array.setIfInBounds_comm _ _ hji, ← Act.put_comm a v u p2]
        exact h4
      unfold opR at h2 ⊢
      simp only [hoj] at h2 ⊢
      rw [wanted_put oj a o.dst v p1] at h2
      split
      · rename_i hw
        simp only [hw, if_true] at h2
        exact wp_weak (fun a' w' ⟨h3, u, h4, h5⟩ => ⟨h3.imp allB_less id, u, h4, h4 ▸ step u w' (h3.imp hnl id) h5⟩) (wp_put (R := fun w' => allB ops (moved.setIfInBounds i true) j = true ∨ Rel w1 w') hsj p1 h2)
      · rename_i hw
        simp only [hw] at h2
        exact step undef w1 (.inr (Rel.refl w1)) h2

/-- What yields one value in every world may come first. -/
theorem wpM_free {i : Nat} {o : Oper} {v : Value} (hi : ops[i]? = some o) (hsel : ∀ (j : Nat) (o : Oper) cs b, ops[j]? = some o → o.op ≠ .select cs b) :
    ∀ (k : Nat) (listed moved : Array Bool) (a : Act) (w : World), Down ops listed → moved.size = listed.size →
      (∀ j oj, ops[j]? = some oj → j ≠ i → listed.getD j true = false → (∀ e ∈ oj.after, Region.binds .any e = true → e.on ≠ i) → o.apart ops oj = true) →
      i ∈ Region.ready .any ops listed → (∀ w', (∀ w1, Rel w' w1 → I w1) → yieldsR P ops o a w' v) →
      wpM P ops QA I k (listed.setIfInBounds i true) moved (a.put o.dst v) w → wpM P ops QA I (k + 1) listed moved a w := by
  intro k
  induction k with
  | zero =>
    intro listed moved a w _ _ _ hr hy H
    refine ⟨H.1, fun h => (by rw [h] at hr; cases hr), fun j hj w1 h1 => ?_⟩
    by_cases hji : j = i
    · subst hji; exact yieldsR_opR hi (hy w H.1) h1 fun w' hw' => wpM_rel H (h1.trans hw')
    · have := ready_mono hj hji
      rw [H.2.1] at this
      cases this
  | succ k ih =>
    intro listed moved a w hd hsz hfree hr hy H
    refine ⟨H.1, fun h => (by rw [h] at hr; cases hr), fun j hj w1 h1 => ?_⟩
    by_cases hji : j = i
    · subst hji; exact yieldsR_opR hi (hy w H.1) h1 fun w' hw' => wpM_rel H (h1.trans hw')
    · have h2 := H.2.2 j (ready_mono hj hji) w1 h1
      obtain ⟨hjun, oj, hoj, hall⟩ := mem_ready.1 hj
      have hnot : ∀ e ∈ oj.after, Region.binds .any e = true → e.on ≠ i := fun e he hb heq => by
        have h1 := hall e he hb
        have h0 := (mem_ready.1 hr).1
        rw [heq] at h1
        rcases Nat.lt_or_ge i listed.size with h' | h'
        · simp [h'] at h0 h1; rw [h0] at h1; cases h1
        · simp [Array.getElem?_eq_none h'] at h1
      have hap := hfree j oj hoj hji hjun hnot
      obtain ⟨p1, p2, p3⟩ := Oper.apart_spec hap
      have hfree' : ∀ m om, ops[m]? = some om → m ≠ i → (listed.setIfInBounds j true).getD m true = false →
          (∀ e ∈ om.after, Region.binds .any e = true → e.on ≠ i) → o.apart ops om = true := fun m om hm hmi hun hno => by
        refine hfree m om hm hmi ?_ hno
        by_cases hjm : j = m
        · subst hjm; exact hjun
        · rw [getD_set_ne true hjm] at hun; exact hun
      have hsi := fun cs b => hsel i o cs b hi
      have hsj := fun cs b => hsel j oj cs b hoj
      have keep : ∀ u w2, (∀ w1, Rel w2 w1 → I w1) → yieldsR P ops o (a.put oj.dst u) w2 v := fun u w2 hI => by
        have hy2 := hy w2 hI
        unfold yieldsR at *
        rw [wanted_put o a oj.dst u p3]
        rcases hy2 with ⟨hw, hq⟩ | hy2
        · exact .inl ⟨hw, quietR_put hsi p3 (fun d hd => fun hd' => p2 d hd' hd) hq (Rel.refl w2)⟩
        · exact .inr hy2
      have step : ∀ u w2, wpM P ops QA I k ((listed.setIfInBounds i true).setIfInBounds j true) moved ((a.put o.dst v).put oj.dst u) w2 → wpM P ops QA I (k + 1) (listed.setIfInBounds j true) moved (a.put oj.dst u) w2 := fun u w2 h4 => by
        refine ih (listed.setIfInBounds j true) moved _ _ (hd.set hj) (by simpa using hsz) hfree' (ready_mono hr (Ne.symm hji)) (keep u) ?_
        rw [Array.setIfInBounds_comm _ _ hji, ← Act.put_comm a v u p2]
        exact h4
      unfold opR at h2 ⊢
      simp only [hoj] at h2 ⊢
      rw [wanted_put oj a o.dst v p1] at h2
      split
      · rename_i hw
        simp only [hw, if_true] at h2
        exact wp_weak (fun a' w' ⟨h3, u, h4, h5⟩ => ⟨h3, u, h4, h4 ▸ step u w' h5⟩) (wp_put (R := fun w' => allB ops moved j = true ∨ Rel w1 w') hsj p1 h2)
      · rename_i hw
        simp only [hw] at h2
        exact step undef w1 h2

def ordM (ops : Array Oper) : List (Nat × Nat) → Array Bool → Array Bool → Bool
  | [], _, _ => true
  | (k, 0) :: r, listed, moved => ((Region.ready .any ops listed).contains k && Region.free .any ops listed k) && ordM ops r (listed.setIfInBounds k true) (moved.setIfInBounds k true)
  | (k, f + 1) :: r, listed, moved => (Region.ready .any ops listed == [k] && (!Nat.beq f 1 || allB ops moved k)) && ordM ops r (listed.setIfInBounds k true) moved
def movAll (moved : Array Bool) : List (Nat × Nat) → Array Bool
  | [] => moved
  | (k, 0) :: ks => movAll (moved.setIfInBounds k true) ks
  | (_, _ + 1) :: ks => movAll moved ks

def oneF : List (Nat × Nat) → Bool
  | [] => true
  | (_, 0) :: r => oneF r
  | (_, _ + 1) :: r => r.all fun p => Nat.beq p.2 0
theorem oneF_all {r : List (Nat × Nat)} (h : (r.all fun p => Nat.beq p.2 0) = true) : oneF r = true := by
  induction r with
  | nil => rfl
  | cons p r ih =>
    obtain ⟨k, f⟩ := p
    simp only [List.all_cons, Bool.and_eq_true] at h
    cases f with
    | zero => exact ih h.2
    | succ f => exact h.2

theorem wpM_part (hs : Region.noSelect ops = true) {K : Nat} : ∀ (ks : List (Nat × Nat)) (l : List (Oper × Nat)) (listed moved : Array Bool) (a : Act) (w : World), Down ops listed → moved.size = listed.size → oneF ks = true → ((∀ w1, Rel w w1 → I w1) ∨ (ks.all fun p => Nat.beq p.2 0) = true) →
    ks.map (fun k => (ops[k.1]?.map fun o => (o, k.2))) = l.map some → ordM ops ks listed moved = true → wpO P ops (fun a w => Down ops (setAll listed ks) → (movAll moved ks).size = (setAll listed ks).size → wpM P ops QA I K (setAll listed ks) (movAll moved ks) a w) l a w → wpM P ops QA I (K + ks.length) listed moved a w
  | [], [], _, _, _, w, hd, hz, _, _, _, _, h => h w (Rel.refl w) hd hz
  | [], _ :: _, _, _, _, _, _, _, _, _, he, _, _ => by simp at he
  | _ :: _, [], _, _, _, _, _, _, _, _, he, _, _ => by simp at he
  | (k, f) :: ks, (o, f') :: l, listed, moved, a, w, hd, hz, h1f, hJ, he, hB, h => by
    simp only [List.map_cons, List.cons.injEq] at he
    obtain ⟨h0, he⟩ := he
    have ho : ops[k]? = some o ∧ f = f' := by
      cases hk : ops[k]? with
      | none => simp [hk] at h0
      | some o' => simp [hk] at h0; exact ⟨by rw [h0.1], h0.2⟩
    obtain ⟨ho, rfl⟩ := ho
    cases f with
    | zero =>
      simp only [ordM, Bool.and_eq_true] at hB
      obtain ⟨hB1, hB2⟩ := hB
      obtain ⟨v, hy, hK⟩ := h
      have hrd : k ∈ Region.ready .any ops listed := by simpa using hB1.1
      exact wpM_first ho (Region.noSelect_spec hs) (K + ks.length) listed moved a w hd hz (Region.free_spec ho hB1.2) hrd hy (wpM_part hs ks l _ _ _ _ (hd.set hrd) (by simpa using hz) h1f (hJ.imp id fun h => by simp only [List.all_cons, Bool.and_eq_true] at h; exact h.2) he hB2 hK)
    | succ f =>
      simp only [ordM, Bool.and_eq_true] at hB
      obtain ⟨hB1, hB2⟩ := hB
      have hr : Region.ready .any ops listed = [k] := by simpa using hB1.1
      have hJ : ∀ w1, Rel w w1 → I w1 := hJ.elim id fun h => by simp at h
      refine ⟨hJ, (fun h' => by rw [hr] at h'; cases h'), fun i hi w1 h1 => ?_⟩
      rw [hr] at hi
      have hik : i = k := by simpa using hi
      subst hik
      unfold opR
      rcases h with ⟨hw, hK⟩ | ⟨hw, hK⟩
      rotate_left
      · simp only [ho, hw, Bool.false_eq_true, if_false]
        exact wpM_part hs ks l _ _ _ _ (hd.set (by rw [hr]; simp)) (by simpa using hz) (oneF_all h1f) (.inr h1f) he hB2 (hK w1 h1)
      simp only [ho, hw, if_true]
      refine wp_weak (fun _ _ ⟨h2, v, h3, h4⟩ => ⟨?_, v, h3, wpM_part hs ks l _ _ _ _ (hd.set (by rw [hr]; simp)) (by simpa using hz) (oneF_all h1f) (.inr h1f) he hB2 h4⟩) (hK w1 h1)
      rcases h2 with h2 | h2
      · left
        have := hB1.2
        rw [h2] at this
        simpa using this
      · exact .inr h2
end

section
variable {P : Program} {n : Nat} {l : List Oper} {Q : Post} {env : Env} {w : World} {listed moved : Array Bool} {I : World → Prop}

/-- What is left of a region, some things being listed. -/
def WM (P : Program) (n : Nat) (ops : Array Oper) (Q : Post) (I : World → Prop) (k : Nat) (listed moved : Array Bool) (env : Env) (w : World) : Prop :=
  Down ops listed → moved.size = listed.size → ∀ a, Has n a env → wpM P ops (fun a w => lift n Q .normal a w) I k listed moved a w

theorem wm_run (ks : List (Nat × Nat)) (K : Nat) {K' : Nat} (hJ : ∀ w1, Rel w w1 → I w1) (h1f : oneF ks = true) (hk : Nat.beq (K + ks.length) K' = true) (hs : Region.noSelect l.toArray = true) (hB : ordM l.toArray ks listed moved = true) (he : (ks.all fun k => Nat.blt k.1 l.length) = true)
    (h : WO P n l.toArray (fun _ env w => WM P n l.toArray Q I K (setAll listed ks) (movAll moved ks) env w) (ordOps l ks) env w) : WM P n l.toArray Q I K' listed moved env w := fun hd hz a ha => by
  rw [← Nat.eq_of_beq_eq_true hk]
  refine wpM_part hs ks _ listed moved a w hd hz h1f (.inl hJ) (ordOps_eq l ks he) hB ?_
  have h1 := h a ha
  have key : ∀ (r : List (Oper × Nat)) (QA QB : Act → World → Prop) (_ : ∀ a w, QA a w → QB a w) (a : Act) (w : World), wpO P l.toArray QA r a w → wpO P l.toArray QB r a w := by
    intro r
    induction r with
    | nil => intro QA QB hq a w h w1 h1; exact hq _ _ (h w1 h1)
    | cons o r ih =>
      intro QA QB hq a w h
      obtain ⟨o, f⟩ := o
      cases f with
      | zero => obtain ⟨v, hy, hK⟩ := h; exact ⟨v, hy, ih QA QB hq _ _ hK⟩
      | succ f =>
        rcases h with h | h
        · exact .inl ⟨h.1, fun w1 h1 => wp_weak (fun _ _ ⟨h2, v, h3, h4⟩ => ⟨h2, v, h3, ih QA QB hq _ _ h4⟩) (h.2 w1 h1)⟩
        · exact .inr ⟨h.1, fun w1 h1 => ih QA QB hq _ _ (h.2 w1 h1)⟩
  exact key _ _ _ (fun a w ⟨env', ha', hq⟩ hd' hz' => hq hd' hz' a ha') _ _ h1

theorem wm_free (i K : Nat) {K' d : Nat} {op : Op} {v : Value} {ty : TypeId} {pos : String} {af : Array Edge} (hi : l.toArray[i]? = some ⟨some d, op, ty, pos, af, none⟩) (hk : Nat.beq (K + 1) K' = true) (hs : Region.noSelect l.toArray = true)
    (hB : ((Region.ready .any l.toArray listed).contains i && Region.free .any l.toArray listed i) = true) (hd : Nat.blt d n = true) (hr : ∀ w1, I w1 → Runs P n env w1 ⟨some d, op, ty, pos, af, none⟩ v w1)
    (h : WM P n l.toArray Q I K (listed.setIfInBounds i true) moved ((d, v) :: env) w) : WM P n l.toArray Q I K' listed moved env w := fun hdn hz a ha => by
  rw [← Nat.eq_of_beq_eq_true hk]
  simp only [Bool.and_eq_true] at hB
  have hrd : i ∈ Region.ready .any l.toArray listed := by simpa using hB.1
  exact wpM_free hi (Region.noSelect_spec hs) K listed moved a w hdn hz (Region.free_spec hi hB.2) hrd (fun w' hI => .inl ⟨rfl, fun w1 h1 => by unfold Oper.wp; rw [hr w1 (hI w1 h1) a ha]; exact ⟨Rel.refl w1, rfl⟩⟩) (h (hdn.set hrd) (by simpa using hz) _ (ha.put hd v))

theorem wm_end (hJ : ∀ w1, Rel w w1 → I w1) (h0 : (Region.ready .any l.toArray listed).isEmpty = true) (h : ∀ w1, Rel w w1 → Q .normal env w1) : WM P n l.toArray Q I 0 listed moved env w := fun _ _ _ ha => ⟨hJ, by simpa using h0, fun w1 h1 => ⟨env, ha, h w1 h1⟩⟩

def forkM (P : Program) (n : Nat) (l : List Oper) (Q : Post) (I : World → Prop) (K : Nat) (listed moved : Array Bool) (env : Env) (w : World) : List (Nat × Nat) → Prop
  | [] => True
  | p :: r => WO P n l.toArray (fun _ env w => WM P n l.toArray Q I K (listed.setIfInBounds p.1 true) moved env w) (ordOps l [(p.1, p.2 + 1)]) env w ∧ forkM P n l Q I K listed moved env w r

theorem forkM_get : ∀ {ks : List (Nat × Nat)} {K : Nat}, forkM P n l Q I K listed moved env w ks → ∀ p ∈ ks, WO P n l.toArray (fun _ env w => WM P n l.toArray Q I K (listed.setIfInBounds p.1 true) moved env w) (ordOps l [(p.1, p.2 + 1)]) env w
  | [], _, _, p, hp => by cases hp
  | q :: ks, K, h, p, hp => by
    rcases List.mem_cons.1 hp with rfl | hp
    · exact h.1
    · exact forkM_get h.2 p hp

/-- Several things may come next; each of them is followed. -/
theorem wm_fork (ks : List (Nat × Nat)) (K : Nat) {K' : Nat} (hJ : ∀ w1, Rel w w1 → I w1) (hk : Nat.beq (K + 1) K' = true) (hr : (Region.ready .any l.toArray listed == ks.map Prod.fst) = true) (hp : Nat.blt 0 ks.length = true)
    (hf : (ks.all fun p => Nat.blt p.1 l.length && (!Nat.beq p.2 1 || allB l.toArray moved p.1)) = true) (h : forkM P n l Q I K listed moved env w ks) : WM P n l.toArray Q I K' listed moved env w := fun hd hz a ha => by
  rw [← Nat.eq_of_beq_eq_true hk]
  have hr' : Region.ready .any l.toArray listed = ks.map Prod.fst := by simpa using hr
  refine ⟨hJ, fun h0 => ?_, fun i hi w1 h1 => ?_⟩
  · rw [hr'] at h0
    have h2 : ks = [] := by simpa using h0
    rw [h2] at hp
    cases hp
  · have hi' := hi
    rw [hr'] at hi
    obtain ⟨p, hp1, rfl⟩ := List.mem_map.1 hi
    have hf1 := List.all_eq_true.1 hf p hp1
    simp only [Bool.and_eq_true] at hf1
    have hlt : p.1 < l.length := by simpa using hf1.1
    have h2 := forkM_get h p hp1 a ha
    have ho : l.toArray[p.1]? = some l[p.1] := by simp [hlt]
    simp only [ordOps, List.getElem?_eq_getElem hlt] at h2
    unfold opR
    rcases h2 with ⟨hw, hK⟩ | ⟨hw, hK⟩
    rotate_left
    · simp only [ho, hw, Bool.false_eq_true, if_false]
      obtain ⟨env', ha', hq⟩ := hK w1 h1 w1 (Rel.refl w1)
      exact hq (hd.set hi') (by simpa using hz) _ ha'
    simp only [ho, hw, if_true]
    refine wp_weak (fun a' w' ⟨h2, v, h3, h4⟩ => ⟨?_, v, h3, ?_⟩) (hK w1 h1)
    · rcases h2 with h2 | h2
      · left
        have := hf1.2
        rw [h2] at this
        simpa using this
      · exact .inr h2
    · obtain ⟨env', ha', hq⟩ := h4 w' (Rel.refl w')
      exact hq (hd.set hi') (by simpa using hz) _ ha'

theorem wc_drawM {id : Nat} (I : World → Prop) (hm : P.follows .mixedOrders = true) (h : WM P n l.toArray Q I l.length (Array.replicate l.length false) (Array.replicate l.length false) env w) : WC P n (.region id l.toArray true) Q env w := fun a ha => by
  refine wp_region_any hm (wpAny_of_wpM (I := I) (QA := fun a w => lift n Q .normal a w) (fun _ _ h => h) _ _ (Array.replicate l.length false) _ _ ?_)
  have h1 := h (Down.init _) rfl a ha
  simpa using wpM_rel h1 (Rel.drew (Rel.refl w))
end

section
variable {P : Program} {n : Nat} {env : Env} {w : World}
/-- A guarded operation that makes memory. -/
theorem g_ex {ops : Array Oper} {Q : Post} {d : Nat} {op : Op} {j : Nat} {b c : Bool} {ty : TypeId} {pos : String} {af : Array Edge} {rest : List Oper} (hg : gd ops env j = some (.bool c)) (hc : c = b) (hd : Nat.blt d n = true)
    (h : Ex P n env w ⟨some d, op, ty, pos, af, some (j, b)⟩ fun v w' => WL P n ops rest Q ((d, v) :: env) w') : WL P n ops (⟨some d, op, ty, pos, af, some (j, b)⟩ :: rest) Q env w := by
  obtain ⟨v, w', hr, hk⟩ := h
  exact gv hg hc hd hr hk
/-- Something that only looks, at a place of its own. -/
theorem exq {o : Oper} {v : Value} {K : Value → World → Prop} (hr : Runs P n env w o v w) (h : K v w) : Ex P n env w o K := ⟨v, w, hr, h⟩
end
section
variable {w0 : Base} {rs : List Rd} {w : World} {m : List As} {a0 a1 a2 a3 a4 a5 a6 a7 a8 a9 a10 a11 a12 a13 a14 : As}
theorem St.p1 (h : St w0 (a0 :: a1 :: m) rs w) : St w0 (a1 :: a0 :: m) rs w := h.pl [1]
theorem St.p2 (h : St w0 (a0 :: a1 :: a2 :: m) rs w) : St w0 (a2 :: a0 :: a1 :: m) rs w := h.pl [2]
theorem St.p3 (h : St w0 (a0 :: a1 :: a2 :: a3 :: m) rs w) : St w0 (a3 :: a0 :: a1 :: a2 :: m) rs w := h.pl [3]
theorem St.p4 (h : St w0 (a0 :: a1 :: a2 :: a3 :: a4 :: m) rs w) : St w0 (a4 :: a0 :: a1 :: a2 :: a3 :: m) rs w := h.pl [4]
theorem St.p5 (h : St w0 (a0 :: a1 :: a2 :: a3 :: a4 :: a5 :: m) rs w) : St w0 (a5 :: a0 :: a1 :: a2 :: a3 :: a4 :: m) rs w := h.pl [5]
theorem St.p6 (h : St w0 (a0 :: a1 :: a2 :: a3 :: a4 :: a5 :: a6 :: m) rs w) : St w0 (a6 :: a0 :: a1 :: a2 :: a3 :: a4 :: a5 :: m) rs w := h.pl [6]
theorem St.p7 (h : St w0 (a0 :: a1 :: a2 :: a3 :: a4 :: a5 :: a6 :: a7 :: m) rs w) : St w0 (a7 :: a0 :: a1 :: a2 :: a3 :: a4 :: a5 :: a6 :: m) rs w := h.pl [7]
theorem St.p8 (h : St w0 (a0 :: a1 :: a2 :: a3 :: a4 :: a5 :: a6 :: a7 :: a8 :: m) rs w) : St w0 (a8 :: a0 :: a1 :: a2 :: a3 :: a4 :: a5 :: a6 :: a7 :: m) rs w := h.pl [8]
theorem St.p9 (h : St w0 (a0 :: a1 :: a2 :: a3 :: a4 :: a5 :: a6 :: a7 :: a8 :: a9 :: m) rs w) : St w0 (a9 :: a0 :: a1 :: a2 :: a3 :: a4 :: a5 :: a6 :: a7 :: a8 :: m) rs w := h.pl [9]
theorem St.t0 (h : St w0 (m) rs w) : St w0 [] rs w := h.tk 0
theorem St.t1 (h : St w0 (a0 :: m) rs w) : St w0 [a0] rs w := h.tk 1
theorem St.t2 (h : St w0 (a0 :: a1 :: m) rs w) : St w0 [a0, a1] rs w := h.tk 2
theorem St.t3 (h : St w0 (a0 :: a1 :: a2 :: m) rs w) : St w0 [a0, a1, a2] rs w := h.tk 3
theorem St.t4 (h : St w0 (a0 :: a1 :: a2 :: a3 :: m) rs w) : St w0 [a0, a1, a2, a3] rs w := h.tk 4
theorem St.t5 (h : St w0 (a0 :: a1 :: a2 :: a3 :: a4 :: m) rs w) : St w0 [a0, a1, a2, a3, a4] rs w := h.tk 5
theorem St.t6 (h : St w0 (a0 :: a1 :: a2 :: a3 :: a4 :: a5 :: m) rs w) : St w0 [a0, a1, a2, a3, a4, a5] rs w := h.tk 6
theorem St.t7 (h : St w0 (a0 :: a1 :: a2 :: a3 :: a4 :: a5 :: a6 :: m) rs w) : St w0 [a0, a1, a2, a3, a4, a5, a6] rs w := h.tk 7
theorem St.t8 (h : St w0 (a0 :: a1 :: a2 :: a3 :: a4 :: a5 :: a6 :: a7 :: m) rs w) : St w0 [a0, a1, a2, a3, a4, a5, a6, a7] rs w := h.tk 8
theorem St.t9 (h : St w0 (a0 :: a1 :: a2 :: a3 :: a4 :: a5 :: a6 :: a7 :: a8 :: m) rs w) : St w0 [a0, a1, a2, a3, a4, a5, a6, a7, a8] rs w := h.tk 9
theorem St.p10 (h : St w0 (a0 :: a1 :: a2 :: a3 :: a4 :: a5 :: a6 :: a7 :: a8 :: a9 :: a10 :: m) rs w) : St w0 (a10 :: a0 :: a1 :: a2 :: a3 :: a4 :: a5 :: a6 :: a7 :: a8 :: a9 :: m) rs w := h.pl [10]
theorem St.p11 (h : St w0 (a0 :: a1 :: a2 :: a3 :: a4 :: a5 :: a6 :: a7 :: a8 :: a9 :: a10 :: a11 :: m) rs w) : St w0 (a11 :: a0 :: a1 :: a2 :: a3 :: a4 :: a5 :: a6 :: a7 :: a8 :: a9 :: a10 :: m) rs w := h.pl [11]
theorem St.p12 (h : St w0 (a0 :: a1 :: a2 :: a3 :: a4 :: a5 :: a6 :: a7 :: a8 :: a9 :: a10 :: a11 :: a12 :: m) rs w) : St w0 (a12 :: a0 :: a1 :: a2 :: a3 :: a4 :: a5 :: a6 :: a7 :: a8 :: a9 :: a10 :: a11 :: m) rs w := h.pl [12]
theorem St.p13 (h : St w0 (a0 :: a1 :: a2 :: a3 :: a4 :: a5 :: a6 :: a7 :: a8 :: a9 :: a10 :: a11 :: a12 :: a13 :: m) rs w) : St w0 (a13 :: a0 :: a1 :: a2 :: a3 :: a4 :: a5 :: a6 :: a7 :: a8 :: a9 :: a10 :: a11 :: a12 :: m) rs w := h.pl [13]
theorem St.p14 (h : St w0 (a0 :: a1 :: a2 :: a3 :: a4 :: a5 :: a6 :: a7 :: a8 :: a9 :: a10 :: a11 :: a12 :: a13 :: a14 :: m) rs w) : St w0 (a14 :: a0 :: a1 :: a2 :: a3 :: a4 :: a5 :: a6 :: a7 :: a8 :: a9 :: a10 :: a11 :: a12 :: a13 :: m) rs w := h.pl [14]
theorem St.t10 (h : St w0 (a0 :: a1 :: a2 :: a3 :: a4 :: a5 :: a6 :: a7 :: a8 :: a9 :: m) rs w) : St w0 [a0, a1, a2, a3, a4, a5, a6, a7, a8, a9] rs w := h.tk 10
theorem St.t11 (h : St w0 (a0 :: a1 :: a2 :: a3 :: a4 :: a5 :: a6 :: a7 :: a8 :: a9 :: a10 :: m) rs w) : St w0 [a0, a1, a2, a3, a4, a5, a6, a7, a8, a9, a10] rs w := h.tk 11
theorem St.t12 (h : St w0 (a0 :: a1 :: a2 :: a3 :: a4 :: a5 :: a6 :: a7 :: a8 :: a9 :: a10 :: a11 :: m) rs w) : St w0 [a0, a1, a2, a3, a4, a5, a6, a7, a8, a9, a10, a11] rs w := h.tk 12
theorem St.t13 (h : St w0 (a0 :: a1 :: a2 :: a3 :: a4 :: a5 :: a6 :: a7 :: a8 :: a9 :: a10 :: a11 :: a12 :: m) rs w) : St w0 [a0, a1, a2, a3, a4, a5, a6, a7, a8, a9, a10, a11, a12] rs w := h.tk 13
theorem St.t14 (h : St w0 (a0 :: a1 :: a2 :: a3 :: a4 :: a5 :: a6 :: a7 :: a8 :: a9 :: a10 :: a11 :: a12 :: a13 :: m) rs w) : St w0 [a0, a1, a2, a3, a4, a5, a6, a7, a8, a9, a10, a11, a12, a13] rs w := h.tk 14
end
end Go.Proofs.YtjbonmmmcnpjiaaGreatDoor
