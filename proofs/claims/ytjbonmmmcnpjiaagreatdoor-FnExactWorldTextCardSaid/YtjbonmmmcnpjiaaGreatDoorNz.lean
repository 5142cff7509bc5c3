/- The second layer, part R: regions in which something that only looks may come before or behind something that writes. No condition. -/
import Derived.Test.YtjbonmmmcnpjiaaGreatDoorNa
namespace Go.Proofs.YtjbonmmmcnpjiaaGreatDoor
open Go.RowKit

section
variable {P : Program} {ops : Array Oper} {QA : Act → World → Prop} {I : World → Prop}

/-- As wpR; what was walked ahead of its time ('moved') is kept apart from what is listed. -/
def wpM (P : Program) (ops : Array Oper) (QA : Act → World → Prop) (I : World → Prop) : Nat → Array Bool → Array Bool → Act → World → Prop
  | 0, listed, _, a, w => (∀ w1, Rel w w1 → I w1) ∧ Region.ready .any ops listed = [] ∧ ∀ w1, Rel w w1 → QA a w1
  | k + 1, listed, moved, a, w => (∀ w1, Rel w w1 → I w1) ∧ (Region.ready .any ops listed = [] → ∀ w1, Rel w w1 → QA a w1) ∧
      ∀ i ∈ Region.ready .any ops listed, ∀ w1, Rel w w1 → opR P ops (allB ops moved i) i (wpM P ops QA I k (listed.setIfInBounds i true) moved) a w1

theorem wpM_rel : ∀ {k : Nat} {listed moved : Array Bool} {a : Act} {w w' : World}, wpM P ops QA I k listed moved a w → Rel w w' → wpM P ops QA I k listed moved a w'
  | 0, _, _, _, _, _, h, hr => ⟨fun w1 h1 => h.1 w1 (hr.trans h1), h.2.1, fun w1 h1 => h.2.2 w1 (hr.trans h1)⟩
  | _ + 1, _, _, _, _, _, h, hr => ⟨fun w1 h1 => h.1 w1 (hr.trans h1), fun h0 w1 h1 => h.2.1 h0 w1 (hr.trans h1), fun i hi w1 h1 => h.2.2 i hi w1 (hr.trans h1)⟩

theorem opR_z {z z' : Bool} {i : Nat} {a : Act} {w : World} {K K' : Act → World → Prop} (hz : z = true → z' = true) (h : ∀ a w, K a w → K' a w) (hh : opR P ops z i K a w) : opR P ops z' i K' a w := by
  unfold opR at *
  split
  · rename_i ho; simp only [ho] at hh
  · rename_i o ho
    simp only [ho] at hh
    split
    · rename_i hw
      simp only [hw, if_true] at hh
      exact wp_weak (fun _ _ ⟨h1, v, h2, h3⟩ => ⟨h1.imp hz id, v, h2, h _ _ h3⟩) hh
    · rename_i hw; simp only [hw] at hh; exact h _ _ hh

theorem wpM_less {i : Nat} : ∀ {k : Nat} {listed moved : Array Bool} {a : Act} {w : World}, wpM P ops QA I k listed (moved.setIfInBounds i true) a w → wpM P ops QA I k listed moved a w
  | 0, _, _, _, _, h => h
  | _ + 1, _, _, _, _, h => ⟨h.1, h.2.1, fun j hj w1 h1 => opR_z allB_less (fun _ _ h2 => wpM_less h2) (h.2.2 j hj w1 h1)⟩

theorem wpAny_of_wpM {Q : Exit → Act → World → Prop} (hQ : ∀ a w, QA a w → Q .normal a w) : ∀ (k : Nat) (listed moved : Array Bool) (a : Act) (w : World), wpM P ops QA I k listed moved a w → wpAny P .any ops Q k listed a w
  | 0, _, _, _, w, h => ⟨h.2.1, hQ _ _ (h.2.2 w (Rel.refl w))⟩
  | k + 1, listed, moved, a, w, h => ⟨fun h0 => hQ _ _ (h.2.1 h0 w (Rel.refl w)), fun i hi => by
      have h1 := h.2.2 i hi w (Rel.refl w)
      unfold opR at h1
      unfold wpOp
      split
      · rename_i ho; simp only [ho] at h1
      · rename_i o ho
        simp only [ho] at h1
        split
        · rename_i hw
          simp only [hw, if_true] at h1
          exact .inl (wp_weak (fun _ _ ⟨_, _, _, h3⟩ => wpAny_of_wpM hQ k _ _ _ _ h3) h1)
        · rename_i hw; simp only [hw] at h1; exact wpAny_of_wpM hQ k _ _ _ _ h1⟩

theorem wpM_first {i : Nat} {o : Oper} {v : Value} (hi : ops[i]? = some o) (hsel : ∀ (j : Nat) (o : Oper) cs b, ops[j]? = some o → o.op ≠ .select cs b) :
    ∀ (k : Nat) (listed moved : Array Bool) (a : Act) (w : World), Down ops listed → moved.size = listed.size →
      (∀ j oj, ops[j]? = some oj → j ≠ i → listed.getD j true = false → (∀ e ∈ oj.after, Region.binds .any e = true → e.on ≠ i) → o.apart ops oj = true) →
      i ∈ Region.ready .any ops listed → yieldsR P ops o a w v →
      wpM P ops QA I k (listed.setIfInBounds i true) (moved.setIfInBounds i true) (a.put o.dst v) w → wpM P ops QA I (k + 1) listed moved a w := by
  intro k
  induction k with
  | zero =>
    intro listed moved a w _ _ _ hr hy H
    refine ⟨H.1, fun h => (by rw [h] at hr; cases hr), fun j hj w1 h1 => ?_⟩
    by_cases hji : j = i
    · subst hji; exact yieldsR_opR hi hy h1 fun w' hw' => wpM_less (wpM_rel H (h1.trans hw'))
    · have := ready_mono hj hji
      rw [H.2.1] at this
      cases this
  | succ k ih =>
    intro listed moved a w hd hsz hfree hr hy H
    refine ⟨H.1, fun h => (by rw [h] at hr; cases hr), fun j hj w1 h1 => ?_⟩
    by_cases hji : j = i
    · subst hji; exact yieldsR_opR hi hy h1 fun w' hw' => wpM_less (wpM_rel H (h1.trans hw'))
    · have h2 := H.2.2 j (ready_mono hj hji) w1 h1
      obtain ⟨hjun, oj, hoj, hall⟩ := mem_ready.1 hj
      have hnot : ∀ e ∈ oj.after, Region.binds .any e = true → e.on ≠ i := fun e he hb heq => by
        have h1 := hall e he hb
        have h0 := (mem_ready.1 hr).1
        rw [heq] at h1
        rcases Nat.lt_or_ge i listed.size with h' | h'
        · simp [h'] at h0 h1; rw [h0] at h1; cases h1
        · simp [Array.getElem?_eq_none h'] at h1
      have hap := hfree j oj hoj hji hjun hnot
      have hnl : allB ops (moved.setIfInBounds i true) j = true → isMv o = true := fun hl => by
        have h9 := (mem_ready.1 hr).1
        rcases Nat.lt_or_ge i listed.size with h' | h'
        · have h'' : i < moved.size := by omega
          rcases allB_spec hd hl hoj ((Array.getElem?_eq_some_iff.1 hi).1) (by simp [h'']) hall with h8 | h8
          · unfold mvB at h8; simpa only [hi] using h8
          · simp [h'] at h8 h9; rw [h9] at h8; cases h8
        · simp [Array.getElem?_eq_none h'] at h9
      obtain ⟨p1, p2, p3⟩ := Oper.apart_spec hap
      have hfree' : ∀ m om, ops[m]? = some om → m ≠ i → (listed.setIfInBounds j true).getD m true = false →
          (∀ e ∈ om.after, Region.binds .any e = true → e.on ≠ i) → o.apart ops om = true := fun m om hm hmi hun hno => by
        refine hfree m om hm hmi ?_ hno
        by_cases hjm : j = m
        · subst hjm; exact hjun
        · rw [getD_set_ne true hjm] at hun; exact hun
      have hsi := fun cs b => hsel i o cs b hi
      have hsj := fun cs b => hsel j oj cs b hoj
      have keep : ∀ u w2, (isMv o = true ∨ Rel w1 w2) → yieldsR P ops o (a.put oj.dst u) w2 v := fun u w2 h3 => by
        unfold yieldsR at *
        rw [wanted_put o a oj.dst u p3]
        rcases hy with ⟨hw, hq⟩ | hy
        · rcases h3 with h3 | h3
          · exact .inl ⟨hw, quietR_mv h3 (quietR_put hsi p3 (fun d hd => fun hd' => p2 d hd' hd) hq (Rel.refl w))⟩
          · exact .inl ⟨hw, quietR_put hsi p3 (fun d hd => fun hd' => p2 d hd' hd) hq (h1.trans h3)⟩
        · exact .inr hy
      have step : ∀ u w2, (isMv o = true ∨ Rel w1 w2) → wpM P ops QA I k ((listed.setIfInBounds i true).setIfInBounds j true) (moved.setIfInBounds i true) ((a.put o.dst v).put oj.dst u) w2 → wpM P ops QA I (k + 1) (listed.setIfInBounds j true) moved (a.put oj.dst u) w2 := fun u w2 h3 h4 => by
        refine ih (listed.setIfInBounds j true) moved _ _ (hd.set hj) (by simpa using hsz) hfree' (ready_mono hr (Ne.symm hji)) (keep u w2 h3) ?_
        rw [Array.setIfInBounds_comm _ _ hji, ← Act.put_comm a v u p2]
        exact h4
      unfold opR at h2 ⊢
      simp only [hoj] at h2 ⊢
      rw [wanted_put oj a o.dst v p1] at h2
      split
      · rename_i hw
        simp only [hw, if_true] at h2
        exact wp_weak (fun a' w' ⟨h3, u, h4, h5⟩ => ⟨h3.imp allB_less id, u, h4, h4 ▸ step u w' (h3.imp hnl id) h5⟩) (wp_put (R := fun w' => allB ops (moved.setIfInBounds i true) j = true ∨ Rel w1 w') hsj p1 h2)
      · rename_i hw
        simp only [hw] at h2
        exact step undef w1 (.inr (Rel.refl w1)) h2

/-- What yields one value in every world may come first. -/
theorem wpM_free {i : Nat} {o : Oper} {v : Value} (hi : ops[i]? = some o) (hsel : ∀ (j : Nat) (o : Oper) cs b, ops[j]? = some o → o.op ≠ .select cs b) :
    ∀ (k : Nat) (listed moved : Array Bool) (a : Act) (w : World), Down ops listed → moved.size = listed.size →
      (∀ j oj, ops[j]? = some oj → j ≠ i → listed.getD j true = false → (∀ e ∈ oj.after, Region.binds .any e = true → e.on ≠ i) → o.apart ops oj = true) →
      i ∈ Region.ready .any ops listed → (∀ w', (∀ w1, Rel w' w1 → I w1) → yieldsR P ops o a w' v) →
      wpM P ops QA I k (listed.setIfInBounds i true) moved (a.put o.dst v) w → wpM P ops QA I (k + 1) listed moved a w := by
  intro k
  induction k with
  | zero =>
    intro listed moved a w _ _ _ hr hy H
    refine ⟨H.1, fun h => (by rw [h] at hr; cases hr), fun j hj w1 h1 => ?_⟩
    by_cases hji : j = i
    · subst hji; exact yieldsR_opR hi (hy w H.1) h1 fun w' hw' => wpM_rel H (h1.trans hw')
    · have := ready_mono hj hji
      rw [H.2.1] at this
      cases this
  | succ k ih =>
    intro listed moved a w hd hsz hfree hr hy H
    refine ⟨H.1, fun h => (by rw [h] at hr; cases hr), fun j hj w1 h1 => ?_⟩
    by_cases hji : j = i
    · subst hji; exact yieldsR_opR hi (hy w H.1) h1 fun w' hw' => wpM_rel H (h1.trans hw')
    · have h2 := H.2.2 j (ready_mono hj hji) w1 h1
      obtain ⟨hjun, oj, hoj, hall⟩ := mem_ready.1 hj
      have hnot : ∀ e ∈ oj.after, Region.binds .any e = true → e.on ≠ i := fun e he hb heq => by
        have h1 := hall e he hb
        have h0 := (mem_ready.1 hr).1
        rw [heq] at h1
        rcases Nat.lt_or_ge i listed.size with h' | h'
        · simp [h'] at h0 h1; rw [h0] at h1; cases h1
        · simp [Array.getElem?_eq_none h'] at h1
      have hap := hfree j oj hoj hji hjun hnot
      obtain ⟨p1, p2, p3⟩ := Oper.apart_spec hap
      have hfree' : ∀ m om, ops[m]? = some om → m ≠ i → (listed.setIfInBounds j true).getD m true = false →
          (∀ e ∈ om.after, Region.binds .any e = true → e.on ≠ i) → o.apart ops om = true := fun m om hm hmi hun hno => by
        refine hfree m om hm hmi ?_ hno
        by_cases hjm : j = m
        · subst hjm; exact hjun
        · rw [getD_set_ne true hjm] at hun; exact hun
      have hsi := fun cs b => hsel i o cs b hi
      have hsj := fun cs b => hsel j oj cs b hoj
      have keep : ∀ u w2, (∀ w1, Rel w2 w1 → I w1) → yieldsR P ops o (a.put oj.dst u) w2 v := fun u w2 hI => by
        have hy2 := hy w2 hI
        unfold yieldsR at *
        rw [wanted_put o a oj.dst u p3]
        rcases hy2 with ⟨hw, hq⟩ | hy2
        · exact .inl ⟨hw, quietR_put hsi p3 (fun d hd => fun hd' => p2 d hd' hd) hq (Rel.refl w2)⟩
        · exact .inr hy2
      have step : ∀ u w2, wpM P ops QA I k ((listed.setIfInBounds i true).setIfInBounds j true) moved ((a.put o.dst v).put oj.dst u) w2 → wpM P ops QA I (k + 1) (listed.setIfInBounds j true) moved (a.put oj.dst u) w2 := fun u w2 h4 => by
        refine ih (listed.setIfInBounds j true) moved _ _ (hd.set hj) (by simpa using hsz) hfree' (ready_mono hr (Ne.symm hji)) (keep u) ?_
        rw [Array.setIfInBounds_comm _ _ hji, ← Act.put_comm a v u p2]
        exact h4
      unfold opR at h2 ⊢
      simp only [hoj] at h2 ⊢
      rw [wanted_put oj a o.dst v p1] at h2
      split
      · rename_i hw
        simp only [hw, if_true] at h2
        exact wp_weak (fun a' w' ⟨h3, u, h4, h5⟩ => ⟨h3, u, h4, h4 ▸ step u w' h5⟩) (wp_put (R := fun w' => allB ops moved j = true ∨ Rel w1 w') hsj p1 h2)
      · rename_i hw
        simp only [hw] at h2
        exact step undef w1 h2

def ordM (ops : Array Oper) : List (Nat × Nat) → Array Bool → Array Bool → Bool
  | [], _, _ => true
  | (k, 0) :: r, listed, moved => ((Region.ready .any ops listed).contains k && Region.free .any ops listed k) && ordM ops r (listed.setIfInBounds k true) (moved.setIfInBounds k true)
  | (k, f + 1) :: r, listed, moved => (Region.ready .any ops listed == [k] && (!Nat.beq f 1 || allB ops moved k)) && ordM ops r (listed.setIfInBounds k true) moved
def movAll (moved : Array Bool) : List (Nat × Nat) → Array Bool
  | [] => moved
  | (k, 0) :: ks => movAll (moved.setIfInBounds k true) ks
  | (_, _ + 1) :: ks => movAll moved ks

def oneF : List (Nat × Nat) → Bool
  | [] => true
  | (_, 0) :: r => oneF r
  | (_, _ + 1) :: r => r.all fun p => Nat.beq p.2 0
theorem oneF_all {r : List (Nat × Nat)} (h : (r.all fun p => Nat.beq p.2 0) = true) : oneF r = true := by
  induction r with
  | nil => rfl
  | cons p r ih =>
    obtain ⟨k, f⟩ := p
    simp only [List.all_cons, Bool.and_eq_true] at h
    cases f with
    | zero => exact ih h.2
    | succ f => exact h.2

theorem wpM_part (hs : Region.noSelect ops = true) {K : Nat} : ∀ (ks : List (Nat × Nat)) (l : List (Oper × Nat)) (listed moved : Array Bool) (a : Act) (w : World), Down ops listed → moved.size = listed.size → oneF ks = true → ((∀ w1, Rel w w1 → I w1) ∨ (ks.all fun p => Nat.beq p.2 0) = true) →
    ks.map (fun k => (ops[k.1]?.map fun o => (o, k.2))) = l.map some → ordM ops ks listed moved = true → wpO P ops (fun a w => Down ops (setAll listed ks) → (movAll moved ks).size = (setAll listed ks).size → wpM P ops QA I K (setAll listed ks) (movAll moved ks) a w) l a w → wpM P ops QA I (K + ks.length) listed moved a w
  | [], [], _, _, _, w, hd, hz, _, _, _, _, h => h w (Rel.refl w) hd hz
  | [], _ :: _, _, _, _, _, _, _, _, _, he, _, _ => by simp at he
  | _ :: _, [], _, _, _, _, _, _, _, _, he, _, _ => by simp at he
  | (k, f) :: ks, (o, f') :: l, listed, moved, a, w, hd, hz, h1f, hJ, he, hB, h => by
    simp only [List.map_cons, List.cons.injEq] at he
    obtain ⟨h0, he⟩ := he
    have ho : ops[k]? = some o ∧ f = f' := by
      cases hk : ops[k]? with
      | none => simp [hk] at h0
      | some o' => simp [hk] at h0; exact ⟨by rw [h0.1], h0.2⟩
    obtain ⟨ho, rfl⟩ := ho
    cases f with
    | zero =>
      simp only [ordM, Bool.and_eq_true] at hB
      obtain ⟨hB1, hB2⟩ := hB
      obtain ⟨v, hy, hK⟩ := h
      have hrd : k ∈ Region.ready .any ops listed := by simpa using hB1.1
      exact wpM_first ho (Region.noSelect_spec hs) (K + ks.length) listed moved a w hd hz (Region.free_spec ho hB1.2) hrd hy (wpM_part hs ks l _ _ _ _ (hd.set hrd) (by simpa using hz) h1f (hJ.imp id fun h => by simp only [List.all_cons, Bool.and_eq_true] at h; exact h.2) he hB2 hK)
    | succ f =>
      simp only [ordM, Bool.and_eq_true] at hB
      obtain ⟨hB1, hB2⟩ := hB
      have hr : Region.ready .any ops listed = [k] := by simpa using hB1.1
      have hJ : ∀ w1, Rel w w1 → I w1 := hJ.elim id fun h => by simp at h
      refine ⟨hJ, (fun h' => by rw [hr] at h'; cases h'), fun i hi w1 h1 => ?_⟩
      rw [hr] at hi
      have hik : i = k := by simpa using hi
      subst hik
      unfold opR
      rcases h with ⟨hw, hK⟩ | ⟨hw, hK⟩
      rotate_left
      · simp only [ho, hw, Bool.false_eq_true, if_false]
        exact wpM_part hs ks l _ _ _ _ (hd.set (by rw [hr]; simp)) (by simpa using hz) (oneF_all h1f) (.inr h1f) he hB2 (hK w1 h1)
      simp only [ho, hw, if_true]
      refine wp_weak (fun _ _ ⟨h2, v, h3, h4⟩ => ⟨?_, v, h3, wpM_part hs ks l _ _ _ _ (hd.set (by rw [hr]; simp)) (by simpa using hz) (oneF_all h1f) (.inr h1f) he hB2 h4⟩) (hK w1 h1)
      rcases h2 with h2 | h2
      · left
        have := hB1.2
        rw [h2] at this
        simpa using this
      · exact .inr h2
end

section
variable {P : Program} {n : Nat} {l : List Oper} {Q : Post} {env : Env} {w : World} {listed moved : Array Bool} {I : World → Prop}

/-- What is left of a region, some things being listed. -/
def WM (P : Program) (n : Nat) (ops : Array Oper) (Q : Post) (I : World → Prop) (k : Nat) (listed moved : Array Bool) (env : Env) (w : World) : Prop :=
  Down ops listed → moved.size = listed.size → ∀ a, Has n a env → wpM P ops (fun a w => lift n Q .normal a w) I k listed moved a w

theorem wm_run (ks : List (Nat × Nat)) (K : Nat) {K' : Nat} (hJ : ∀ w1, Rel w w1 → I w1) (h1f : oneF ks = true) (hk : Nat.beq (K + ks.length) K' = true) (hs : Region.noSelect l.toArray = true) (hB : ordM l.toArray ks listed moved = true) (he : (ks.all fun k => Nat.blt k.1 l.length) = true)
    (h : WO P n l.toArray (fun _ env w => WM P n l.toArray Q I K (setAll listed ks) (movAll moved ks) env w) (ordOps l ks) env w) : WM P n l.toArray Q I K' listed moved env w := fun hd hz a ha => by
  rw [← Nat.eq_of_beq_eq_true hk]
  refine wpM_part hs ks _ listed moved a w hd hz h1f (.inl hJ) (ordOps_eq l ks he) hB ?_
  have h1 := h a ha
  have key : ∀ (r : List (Oper × Nat)) (QA QB : Act → World → Prop) (_ : ∀ a w, QA a w → QB a w) (a : Act) (w : World), wpO P l.toArray QA r a w → wpO P l.toArray QB r a w := by
    intro r
    induction r with
    | nil => intro QA QB hq a w h w1 h1; exact hq _ _ (h w1 h1)
    | cons o r ih =>
      intro QA QB hq a w h
      obtain ⟨o, f⟩ := o
      cases f with
      | zero => obtain ⟨v, hy, hK⟩ := h; exact ⟨v, hy, ih QA QB hq _ _ hK⟩
      | succ f =>
        rcases h with h | h
        · exact .inl ⟨h.1, fun w1 h1 => wp_weak (fun _ _ ⟨h2, v, h3, h4⟩ => ⟨h2, v, h3, ih QA QB hq _ _ h4⟩) (h.2 w1 h1)⟩
        · exact .inr ⟨h.1, fun w1 h1 => ih QA QB hq _ _ (h.2 w1 h1)⟩
  exact key _ _ _ (fun a w ⟨env', ha', hq⟩ hd' hz' => hq hd' hz' a ha') _ _ h1

theorem wm_free (i K : Nat) {K' d : Nat} {op : Op} {v : Value} {ty : TypeId} {pos : String} {af : Array Edge} (hi : l.toArray[i]? = some ⟨some d, op, ty, pos, af, none⟩) (hk : Nat.beq (K + 1) K' = true) (hs : Region.noSelect l.toArray = true)
    (hB : ((Region.ready .any l.toArray listed).contains i && Region.free .any l.toArray listed i) = true) (hd : Nat.blt d n = true) (hr : ∀ w1, I w1 → Runs P n env w1 ⟨some d, op, ty, pos, af, none⟩ v w1)
    (h : WM P n l.toArray Q I K (listed.setIfInBounds i true) moved ((d, v) :: env) w) : WM P n l.toArray Q I K' listed moved env w := fun hdn hz a ha => by
  rw [← Nat.eq_of_beq_eq_true hk]
  simp only [Bool.and_eq_true] at hB
  have hrd : i ∈ Region.ready .any l.toArray listed := by simpa using hB.1
  exact wpM_free hi (Region.noSelect_spec hs) K listed moved a w hdn hz (Region.free_spec hi hB.2) hrd (fun w' hI => .inl ⟨rfl, fun w1 h1 => by unfold Oper.wp; rw [hr w1 (hI w1 h1) a ha]; exact ⟨Rel.refl w1, rfl⟩⟩) (h (hdn.set hrd) (by simpa using hz) _ (ha.put hd v))

theorem wm_end (hJ : ∀ w1, Rel w w1 → I w1) (h0 : (Region.ready .any l.toArray listed).isEmpty = true) (h : ∀ w1, Rel w w1 → Q .normal env w1) : WM P n l.toArray Q I 0 listed moved env w := fun _ _ _ ha => ⟨hJ, by simpa using h0, fun w1 h1 => ⟨env, ha, h w1 h1⟩⟩

theorem wc_drawM {id : Nat} (I : World → Prop) (hm : P.follows .mixedOrders = true) (h : WM P n l.toArray Q I l.length (Array.replicate l.length false) (Array.replicate l.length false) env w) : WC P n (.region id l.toArray true) Q env w := fun a ha => by
  refine wp_region_any hm (wpAny_of_wpM (I := I) (QA := fun a w => lift n Q .normal a w) (fun _ _ h => h) _ _ (Array.replicate l.length false) _ _ ?_)
  have h1 := h (Down.init _) rfl a ha
  simpa using wpM_rel h1 (Rel.drew (Rel.refl w))
end

section
variable {P : Program} {n : Nat} {env : Env} {w : World}
end
section
variable {w0 : Base} {rs : List Rd} {w : World} {m : List As} {a0 a1 a2 a3 a4 a5 a6 a7 a8 a9 a10 a11 a12 a13 a14 : As}
theorem St.p1 (h : St w0 (a0 :: a1 :: m) rs w) : St w0 (a1 :: a0 :: m) rs w := h.pl [1]
theorem St.p2 (h : St w0 (a0 :: a1 :: a2 :: m) rs w) : St w0 (a2 :: a0 :: a1 :: m) rs w := h.pl [2]
theorem St.p3 (h : St w0 (a0 :: a1 :: a2 :: a3 :: m) rs w) : St w0 (a3 :: a0 :: a1 :: a2 :: m) rs w := h.pl [3]
theorem St.p4 (h : St w0 (a0 :: a1 :: a2 :: a3 :: a4 :: m) rs w) : St w0 (a4 :: a0 :: a1 :: a2 :: a3 :: m) rs w := h.pl [4]
theorem St.p5 (h : St w0 (a0 :: a1 :: a2 :: a3 :: a4 :: a5 :: m) rs w) : St w0 (a5 :: a0 :: a1 :: a2 :: a3 :: a4 :: m) rs w := h.pl [5]
theorem St.p6 (h : St w0 (a0 :: a1 :: a2 :: a3 :: a4 :: a5 :: a6 :: m) rs w) : St w0 (a6 :: a0 :: a1 :: a2 :: a3 :: a4 :: a5 :: m) rs w := h.pl [6]
theorem St.t0 (h : St w0 (m) rs w) : St w0 [] rs w := h.tk 0
theorem St.t1 (h : St w0 (a0 :: m) rs w) : St w0 [a0] rs w := h.tk 1
theorem St.t2 (h : St w0 (a0 :: a1 :: m) rs w) : St w0 [a0, a1] rs w := h.tk 2
theorem St.t3 (h : St w0 (a0 :: a1 :: a2 :: m) rs w) : St w0 [a0, a1, a2] rs w := h.tk 3
theorem St.t4 (h : St w0 (a0 :: a1 :: a2 :: a3 :: m) rs w) : St w0 [a0, a1, a2, a3] rs w := h.tk 4
theorem St.t5 (h : St w0 (a0 :: a1 :: a2 :: a3 :: a4 :: m) rs w) : St w0 [a0, a1, a2, a3, a4] rs w := h.tk 5
theorem St.t9 (h : St w0 (a0 :: a1 :: a2 :: a3 :: a4 :: a5 :: a6 :: a7 :: a8 :: m) rs w) : St w0 [a0, a1, a2, a3, a4, a5, a6, a7, a8] rs w := h.tk 9
end
end Go.Proofs.YtjbonmmmcnpjiaaGreatDoor
namespace Go.Proofs.YtjbonmmmcnpjiaaGreatDoor
open Go.RowKit

section
variable {w0 : Base} {w : World} {m : List As} {rs : List Rd} {T : Type} {k q : Nat} {f : T → List Ce} {L : List T} {v : Value}

end

section
variable {P : Program} {n : Nat} {env : Env} {w : World} {d : Option Tmp} {ty : TypeId} {pos : String} {af : Array Edge} {g : Option (Nat × Bool)} {k n0 : Nat} {v : Value}
end
section
variable {P : Program} {n : Nat} {env : Env} {w : World} {d : Option Tmp} {ty : TypeId} {pos : String} {af : Array Edge} {g : Option (Nat × Bool)}
/-- A number cut to a byte. -/
def y8 (n : Int) : UInt8 := UInt8.ofNat (n % 256).toNat
theorem y8_val (n : Int) : IntKind.u8.wrap n = ((y8 n).toNat : Int) := by
  unfold IntKind.wrap y8
  have h0 := Int.emod_nonneg n (show (256 : Int) ≠ 0 by decide)
  have h1 := Int.emod_lt_of_pos n (show (0 : Int) < 256 by decide)
  simp only [IntKind.signed, IntKind.bits, UInt8.toNat_ofNat']
  first
    | (simp; omega)
    | (simp [BitVec.toNat_ofInt]; omega)
theorem r_cvt8 {x : Operand} {s t : TypeId} {k' : IntKind} {td : TypeDesc} {i : Int} (hs : P.underlying s = some td) (ht : P.underlying t = some (.int .u8)) (hx : ev env x = some (.int k' i)) :
    Runs P n env w ⟨d, .convert s t x, ty, pos, af, g⟩ (.int .u8 ((y8 i).toNat : Int)) w := fun a ha => by
  simp [execOp, ha.ev hx, convert, run_underlying hs, run_underlying ht, Conv.intToInt, y8_val]
end
section
variable {P : Program} {n : Nat} {Q : Post} {env : Env} {w : World} {c : Code} {ops : Array Oper} {l rest : List Oper} {ty : TypeId} {pos : String} {af : Array Edge} {r : List (Oper × Nat)}
-- Steps that often come together
theorem wl_sq (h : WC P n c Q env w) : WL P n ops [] (sq P n c Q) env w := wl_nil (sq_n h)
theorem wc_sr {id : Nat} {y : Code} (h : WL P n l.toArray l (sq P n y Q) env w) : WC P n (.seq (.region id l.toArray false) y) Q env w := wc_seq (wc_region h)
theorem wmv {d : Nat} {x : Operand} {v : Value} (hd : Nat.blt d n = true) (hx : ev env x = some v) (h : WL P n ops rest Q ((d, v) :: env) w) : WL P n ops (⟨some d, .move x, ty, pos, af, none⟩ :: rest) Q env w := wv hd (r_move hx) h
theorem was {d : Nat} {x : Operand} {v : Value} (hd : Nat.blt d n = true) (hx : ev env x = some v) (h : WL P n ops rest Q ((d, v) :: env) w) : WL P n ops (⟨some d, .assign x, ty, pos, af, none⟩ :: rest) Q env w := wv hd (r_assign hx) h
theorem omv {d : Nat} {x : Operand} {v : Value} (hd : Nat.blt d n = true) (hx : ev env x = some v) (h : WO P n ops Q r ((d, v) :: env) w) : WO P n ops Q ((⟨some d, .move x, ty, pos, af, none⟩, 0) :: r) env w := ov hd (fun _ _ => r_move hx) h
theorem o_nilM {w0 : Base} {m : List As} {rs : List Rd} (hM : St w0 m rs w) (h : ∀ w1, St w0 m rs w1 → Q .normal env w1) : WO P n ops Q [] env w := o_nil fun w1 h1 => h w1 (hM.call h1)
end
end Go.Proofs.YtjbonmmmcnpjiaaGreatDoor
namespace Go.Proofs.YtjbonmmmcnpjiaaGreatDoor
open Go.RowKit

abbrev iv (n : Int) : Value := .int .i64 n
abbrev bv (b : Bool) : Value := .bool b
abbrev pt (b o : Nat) : Value := .pointer (some ⟨b, o, none⟩)
abbrev SX (X S : Bs) (w : World) : Prop := ∀ b, S b → b < w.heap.size ∧ ¬ X b
abbrev KV (X S : Bs) (w : World) (v : Value) : Value → World → Prop := fun u w' => ∃ _ : Unit, u = v ∧ Gives X S w [] [] w'

section
variable {α : Type} {a b0 b1 b2 b3 b4 b5 b6 b7 b8 b9 b10 b11 b12 b13 b14 : α} {l : List α}
theorem m0 : a ∈ a :: l := .head _
theorem m1 : a ∈ b0 :: a :: l := .tail _ m0
theorem m2 : a ∈ b0 :: b1 :: a :: l := .tail _ m1
theorem m3 : a ∈ b0 :: b1 :: b2 :: a :: l := .tail _ m2
theorem m4 : a ∈ b0 :: b1 :: b2 :: b3 :: a :: l := .tail _ m3
theorem m5 : a ∈ b0 :: b1 :: b2 :: b3 :: b4 :: a :: l := .tail _ m4
theorem m6 : a ∈ b0 :: b1 :: b2 :: b3 :: b4 :: b5 :: a :: l := .tail _ m5
theorem m7 : a ∈ b0 :: b1 :: b2 :: b3 :: b4 :: b5 :: b6 :: a :: l := .tail _ m6
theorem m8 : a ∈ b0 :: b1 :: b2 :: b3 :: b4 :: b5 :: b6 :: b7 :: a :: l := .tail _ m7
theorem m9 : a ∈ b0 :: b1 :: b2 :: b3 :: b4 :: b5 :: b6 :: b7 :: b8 :: a :: l := .tail _ m8
theorem mX (h : a ∈ l) : a ∈ b0 :: b1 :: b2 :: b3 :: b4 :: b5 :: b6 :: b7 :: b8 :: b9 :: l := .tail _ (.tail _ (.tail _ (.tail _ (.tail _ (.tail _ (.tail _ (.tail _ (.tail _ (.tail _ h)))))))))
end

section
variable {α β : Type} {G : Prop}
theorem oi {a b : α} (h : some a = some b) : a = b := Option.some.inj h
theorem bs {x : Option α} {f : α → Option β} {r : β} (h : x.bind f = some r) (k : ∀ y, x = some y → f y = some r → G) : G := by
  obtain ⟨y, h1, h2⟩ := bind_some' h
  exact k y h1 h2
theorem xgs {p : Prop} [Decidable p] {x : Option α} {r : α} (h : xg p x = some r) (k : p → x = some r → G) : G := k (xg_some h).1 (xg_some h).2
theorem cs2 {b : Bool} {x y : Option α} {r : α} (h : cond b x y = some r) (t : b = true → x = some r → G) (f : b = false → y = some r → G) : G := by
  cases b with
  | true => exact t rfl h
  | false => exact f rfl h
end

section
variable {P : Program} {n : Nat} {ops : Array Oper} {Q : Post} {env : Env} {w w1 : World} {w0 : Base} {rest l' : List Oper} {ty ty2 : TypeId} {pos pos2 : String} {af af2 : Array Edge} {m l : List As} {rs : List Rd}

theorem St.addV {X S : Bs} (h : St ⟨w1, X, S⟩ m rs w1) {c : Ce} {v : Value} (hr : c.rd S w1 v) : St ⟨w1, X, S⟩ m (rV v c :: rs) w1 := h.addE (r := rV v c) hr

theorem wcx {α : Type} {c : Operand} {x y : Code} {t : Bool} {u v : Option α} {r : α} (hx : cond t u v = some r) (hc : ev env c = some (.bool t)) (ht : u = some r → WC P n x Q env w) (hf : v = some r → WC P n y Q env w) : WC P n (.cond c x y) Q env w :=
  wc_cond hc (fun h => ht (xif_t h hx)) (fun h => hf (xif_f h hx))

theorem gn {d : Nat} {op : Op} {j : Nat} {b c : Bool} (hc : c = !b) (hg : gd ops env j = some (.bool c)) (hd : Nat.blt d n = true)
    (h : WL P n ops rest Q ((d, undef) :: env) w) : WL P n ops (⟨some d, op, ty, pos, af, some (j, b)⟩ :: rest) Q env w := gs hg (isB_no hc) hd h

/-- A call that gives one value. -/
theorem w_cv {d : Nat} {f : FuncId} {args : List Operand} {ats : Array TypeId} {vs : List Value} {v : Value} (hM : St w0 m rs w) (hd : Nat.blt d n = true) (hv : evs env args = some vs)
    (hc : ∀ X S : Bs, Sep [] X w → (∀ b, S b → b < w.heap.size ∧ ¬ X b) → (∀ r ∈ rs, r.ok S w) → (∀ a ∈ m, ∃ F, (∀ b, F b → S b) ∧ a.ok F w) → Ret P f vs w (fun u w' => ∃ _ : Unit, u = v ∧ Gives X S w [] [] w'))
    (h : ∀ w', St w0 m rs w' → WL P n ops rest Q ((d, v) :: env) w') : WL P n ops (⟨some d, .call { callee := .value (.func f), args := args.toArray, argTypes := ats }, ty, pos, af, none⟩ :: rest) Q env w :=
  w_call hd hv (hM.callV hc) fun _ w' ⟨hu, hr⟩ => by subst hu; exact h w' (hM.call hr)
theorem g_cv {d : Nat} {f : FuncId} {args : List Operand} {ats : Array TypeId} {vs : List Value} {v : Value} {j : Nat} {b c : Bool} (hM : St w0 m rs w) (hb : c = b) (hg : gd ops env j = some (.bool c)) (hd : Nat.blt d n = true) (hv : evs env args = some vs)
    (hc : ∀ X S : Bs, Sep [] X w → (∀ b, S b → b < w.heap.size ∧ ¬ X b) → (∀ r ∈ rs, r.ok S w) → (∀ a ∈ m, ∃ F, (∀ b, F b → S b) ∧ a.ok F w) → Ret P f vs w (fun u w' => ∃ _ : Unit, u = v ∧ Gives X S w [] [] w'))
    (h : ∀ w', St w0 m rs w' → WL P n ops rest Q ((d, v) :: env) w') : WL P n ops (⟨some d, .call { callee := .value (.func f), args := args.toArray, argTypes := ats }, ty, pos, af, some (j, b)⟩ :: rest) Q env w :=
  gc hg hb hd hv (hM.callV hc) fun _ w' ⟨hu, hr⟩ => by subst hu; exact h w' (hM.call hr)

/-- A stretch behind which the memory is as it was. -/
theorem wl_midH (k : Nat) (E : Env) (hM : St w0 m rs w) (h1 : WL P n ops (l'.take k) (fun e env w' => e = .normal ∧ ∃ _ : Unit, Cov env E ∧ St w0 m rs w') env w) (h2 : ∀ w', St w0 m rs w' → WL P n ops (l'.drop k) Q E w') : WL P n ops l' Q env w :=
  wl_mid k (fun _ : Unit => E) (fun _ w' => St w0 m rs w') h1 fun _ => h2
theorem mid_h {E : Env} (hc : Cov env E) (hM : St w0 m rs w) : WL P n ops [] (fun e env w' => e = .normal ∧ ∃ _ : Unit, Cov env E ∧ St w0 m rs w') env w := mid_nil (E := fun _ : Unit => E) (Φ := fun _ w' => St w0 m rs w') () hc hM

/-- The end of a call that gives one value and no memory. -/
theorem fin_u {X S : Bs} {rs' : List ResultVar} {u : Value} (vs : List Value) (hM : St ⟨w1, X, S⟩ m rs w) (h : RVs P w env rs' vs) (hu : resVal vs = u) : fin P rs' (fun v w' => ∃ _ : Unit, v = u ∧ Gives X S w1 [] [] w') .ret env w :=
  fin_ret vs h ⟨(), hu, (hM.dropAll.fewer rsN).gives⟩
end
end Go.Proofs.YtjbonmmmcnpjiaaGreatDoor
