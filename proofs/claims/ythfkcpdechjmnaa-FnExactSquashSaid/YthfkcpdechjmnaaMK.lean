/- Entries of one client behind one another, made one. No condition. -/
import Derived.Test.YthfkcpdechjmnaaM2
import Derived.Test.YthfkcpdechjmnaaLS
namespace Go.Proofs.Ythfkcpdechjmnaa

theorem copy_loop {T : Type} [Inhabited T] {f : Nat → List T → Option (Lr (List T) (List T))} (l : List T) (_hl : l.length ≤ 1099511627776) (hf : ∀ k s, k < l.length → s.length ≤ k → f k s = some (.go (s ++ [el l k]))) : eachN f (fun (s : List T) => (s : List T)) l.length 0 [] = some l := by
  have h := each_run (F := f) (e := fun (s : List T) => s) l (fun r k s => s.length ≤ k) (fun r _ s => s ++ r) (fun s _ => by simp) (fun x r k s hk hx hP => .inl ⟨_, hf k s hk hP, by simp; omega, by simp [hx]⟩) [] (by simp)
  simpa using h
theorem i_copyOp {o : List DPart} (h : smL smDPart o) : x_impl_copyOp o = some o := by
  unfold x_impl_copyOp
  rw [copy_loop o h.1 (fun k s hk hs => by
    have hm := h.2 _ (el_mem hk)
    have h1 := h.1
    unfold x_impl_copyOp_f0 x_impl_copyOp_b0
    rw [i_copyInts hm.2.2.1, Option.bind_some, xg_of (by omega)])]
  rfl
theorem s_copyOp {o : List DPart} (h : smL smDPart o) : x_spec_l02Copy o = some o := by
  unfold x_spec_l02Copy
  rw [copy_loop o h.1 (fun k s hk hs => by
    have hm := h.2 _ (el_mem hk)
    have h1 := h.1
    have h2 := hm.2.2.1
    unfold x_spec_l02Copy_f0 x_spec_l02Copy_b0
    rw [xg_of (by omega), xg_of (by simp; omega)]; rfl)]
  rfl
theorem i_copyEntries {l : List DEntry} (h : smL smDEntry l) : x_impl_copyEntries l = some l := by
  unfold x_impl_copyEntries
  rw [copy_loop l h.1 (fun k s hk hs => by
    have h1 := h.1
    unfold x_impl_copyEntries_f0 x_impl_copyEntries_b0
    rw [i_copyOp (h.2 _ (el_mem hk)).2.2, Option.bind_some, xg_of (by omega)])]
  rfl
theorem s_Entry {e : DEntry} (h : smDEntry e) : x_spec_l08Entry e = some e := by
  unfold x_spec_l08Entry
  rw [s_copyOp h.2.2]; rfl
def okEntry (e : DEntry) : Bool := (decide (1 ≤ e.client ∧ e.client ≤ 8) && decide (1 ≤ e.seq ∧ e.seq ≤ 1000000000)) && (okOp e.o && decide (e.o = nrm e.o))
theorem i_EntryOk (e : DEntry) : x_impl_EntryOk e = some (okEntry e) := by
  unfold x_impl_EntryOk okEntry
  simp only [i_within, i_IsNorm, Option.bind_some, cs_, ca_]
theorem s_EntryOk (e : DEntry) : x_spec_EntryOk e = some (okEntry e) := by
  unfold x_spec_EntryOk okEntry
  simp only [s_In, s_IsNorm, Option.bind_some, cs_, ca_]
def sqStep (out : List DEntry) (e : DEntry) : Option (List DEntry) :=
  if okEntry e then (if out.length = 0 ∨ (el out (out.length - 1)).client ≠ e.client then some (out ++ [e]) else if (compose (el out (out.length - 1)).o e.o).2 then some (out.set (out.length - 1) ⟨e.client, e.seq, (compose (el out (out.length - 1)).o e.o).1⟩) else none) else none
def sqFold : List DEntry → List DEntry → Option (List DEntry)
  | [], out => some out
  | e :: r, out => match sqStep out e with
    | some o => sqFold r o
    | none => none
def squash (l : List DEntry) : List DEntry × Bool := match sqFold l [] with
  | some o => (o, true)
  | none => ([], false)
theorem sqStep_len {out o : List DEntry} {e : DEntry} (h : sqStep out e = some o) : o.length ≤ out.length + 1 := by
  unfold sqStep at h
  split at h
  · split at h
    · cases h; simp
    · split at h
      · cases h; simp
      · cases h
  · cases h
theorem last_z {out : List DEntry} : ((out.length : Int) - 1).toNat = out.length - 1 := by omega
theorem i_Squash {l : List DEntry} (h : smL smDEntry l) : x_impl_Squash l = some (squash l) := by
  unfold x_impl_Squash squash
  have hl := h.1
  rw [i_copyEntries h, Option.bind_some, each_run (F := x_impl_Squash_f0 l) (e := fun (s : List DEntry) => (Sum.inl s : Sum (List DEntry) Unit)) l (fun r k s => s.length ≤ k) (fun r _ s => match sqFold r s with | some o => Sum.inl o | none => Sum.inr ()) (fun s _ => rfl) (fun x r k s hk hx hP => by
    unfold x_impl_Squash_f0 x_impl_Squash_b0
    rw [hx, i_EntryOk, Option.bind_some, sqFold]
    have hst : sqStep s x = if okEntry x then (if s.length = 0 ∨ (el s (s.length - 1)).client ≠ x.client then some (s ++ [x]) else if (compose (el s (s.length - 1)).o x.o).2 then some (s.set (s.length - 1) ⟨x.client, x.seq, (compose (el s (s.length - 1)).o x.o).1⟩) else none) else none := rfl
    cases ho : okEntry x with
    | false => rw [ho] at hst; rw [hst]; exact .inr rfl
    | true =>
      rw [ho, if_pos rfl] at hst
      rw [Bool.not_true, cd_F, last_z]
      by_cases h0 : s.length = 0
      · rw [if_pos (.inl h0)] at hst
        rw [cd_t (by omega), Option.bind_some, cd_T, xg_of (by omega), hst]
        exact .inl ⟨_, rfl, by simp; omega, rfl⟩
      · rw [cd_f (by omega), xg_I (by omega) (by omega), xg_of ⟨by omega, by omega⟩, Option.bind_some]
        by_cases hc : (el s (s.length - 1)).client = x.client
        · rw [if_neg (fun k => k.elim (fun k => h0 k) (fun k => k hc))] at hst
          rw [decide_eq_true hc, Bool.not_true, cd_F, xg_I (by omega) (by omega), xg_of ⟨by omega, by omega⟩, i_Compose, Option.bind_some]
          cases hd : (compose (el s (s.length - 1)).o x.o).2 with
          | false => rw [hd] at hst; rw [hst]; exact .inr rfl
          | true =>
            rw [hd, if_pos rfl] at hst
            rw [Bool.not_true, cd_F, xg_I (by omega) (by omega), xg_of ⟨by omega, by omega⟩, hst]
            exact .inl ⟨_, rfl, by simp; omega, rfl⟩
        · rw [if_pos (.inr hc)] at hst
          rw [decide_eq_false hc, Bool.not_false, cd_T, xg_of (by omega), hst]
          exact .inl ⟨_, rfl, by simp; omega, rfl⟩) [] (by simp), Option.bind_some]
  cases sqFold l [] <;> rfl
theorem s_Squash {l : List DEntry} (h : smL smDEntry l) : x_spec_Squash l = some (squash l) := by
  unfold x_spec_Squash squash
  have hl := h.1
  rw [each_run (F := x_spec_Squash_f0 l) (e := fun (s : List DEntry) => (Sum.inl s : Sum (List DEntry) Unit)) l (fun r k s => s.length ≤ k) (fun r _ s => match sqFold r s with | some o => Sum.inl o | none => Sum.inr ()) (fun s _ => rfl) (fun x r k s hk hx hP => by
    have hm := h.2 _ (el_mem hk)
    rw [hx] at hm
    unfold x_spec_Squash_f0 x_spec_Squash_b0
    rw [hx, s_EntryOk, Option.bind_some, sqFold]
    have hst : sqStep s x = if okEntry x then (if s.length = 0 ∨ (el s (s.length - 1)).client ≠ x.client then some (s ++ [x]) else if (compose (el s (s.length - 1)).o x.o).2 then some (s.set (s.length - 1) ⟨x.client, x.seq, (compose (el s (s.length - 1)).o x.o).1⟩) else none) else none := rfl
    cases ho : okEntry x with
    | false => rw [ho] at hst; rw [hst]; exact .inr rfl
    | true =>
      rw [ho, if_pos rfl] at hst
      rw [Bool.not_true, cd_F, last_z, xg_I (by omega) (by omega)]
      by_cases h0 : s.length = 0
      · rw [if_pos (.inl h0)] at hst
        rw [cd_t (by omega), Option.bind_some, cd_T, s_Entry hm, Option.bind_some, xg_of (by omega), hst]
        exact .inl ⟨_, rfl, by simp; omega, rfl⟩
      · rw [cd_f (by omega), xg_of ⟨by omega, by omega⟩, Option.bind_some]
        by_cases hc : (el s (s.length - 1)).client = x.client
        · rw [if_neg (fun k => k.elim (fun k => h0 k) (fun k => k hc))] at hst
          rw [decide_eq_true hc, Bool.not_true, cd_F, xg_of ⟨by omega, by omega⟩, s_Compose, Option.bind_some]
          cases hd : (compose (el s (s.length - 1)).o x.o).2 with
          | false => rw [hd] at hst; rw [hst]; exact .inr rfl
          | true =>
            rw [hd, if_pos rfl] at hst
            rw [Bool.not_true, cd_F, xg_of ⟨by omega, by omega⟩, hst]
            exact .inl ⟨_, rfl, by simp; omega, rfl⟩
        · rw [if_pos (.inr hc)] at hst
          rw [decide_eq_false hc, Bool.not_false, cd_T, s_Entry hm, Option.bind_some, xg_of (by omega), hst]
          exact .inl ⟨_, rfl, by simp; omega, rfl⟩) [] (by simp), Option.bind_some]
  cases sqFold l [] <;> rfl
theorem okEntry_op {e : DEntry} (h : okEntry e = true) : okOp e.o = true := by
  unfold okEntry at h
  simp only [Bool.and_eq_true] at h
  exact h.2.1
theorem compose_op {a b : List DPart} (h : (compose a b).2 = true) : okOp (compose a b).1 = true := by
  unfold compose at h ⊢
  split at h
  · rename_i g; rw [if_pos g]; exact g.2.2.2
  · cases h
theorem sqStep_op {out o : List DEntry} {e : DEntry} (h : sqStep out e = some o) (ho : ∀ x ∈ out, okOp x.o = true) : ∀ x ∈ o, okOp x.o = true := by
  unfold sqStep at h
  split at h
  · rename_i hk
    split at h
    · cases h
      intro x hx
      rcases List.mem_append.1 hx with hx | hx
      · exact ho x hx
      · rw [List.mem_singleton.1 hx]; exact okEntry_op hk
    · split at h
      · rename_i hc
        cases h
        intro x hx
        rcases List.mem_or_eq_of_mem_set hx with hx | hx
        · exact ho x hx
        · rw [hx]; exact compose_op hc
      · cases h
  · cases h
theorem sqFold_ok : ∀ (l out o : List DEntry), sqFold l out = some o → (∀ x ∈ out, okOp x.o = true) → (∀ x ∈ o, okOp x.o = true) ∧ o.length ≤ out.length + l.length
  | [], out, o, h, ho => by cases h; exact ⟨ho, by omega⟩
  | e :: r, out, o, h, ho => by
    rw [sqFold] at h
    cases hs : sqStep out e with
    | none => rw [hs] at h; cases h
    | some u =>
      rw [hs] at h
      have g := sqFold_ok r u o h (sqStep_op hs ho)
      have := sqStep_len hs
      exact ⟨g.1, by simp only [List.length_cons]; omega⟩
theorem sz_ops : ∀ l : List DEntry, (∀ x ∈ l, okOp x.o = true) → sumL szDEntry l ≤ 800 * l.length
  | [], _ => Nat.le_refl _
  | e :: r, h => by
    have ih := sz_ops r fun x hx => h x (by simp [hx])
    have h1 := okOp_sz (h e (by simp))
    show szDEntry e + sumL szDEntry r ≤ _
    have : szDEntry e = lenL szDPart e.o := by unfold szDEntry; simp []
    simp only [List.length_cons]
    omega
theorem ex_FnExactSquash (l : List DEntry) (_ : wfL wfDEntry l) (h : lenL szDEntry l ≤ 1048576) : ∃ r, x_spec_Squash l = some r ∧ x_impl_Squash l = some r ∧ lenL szDEntry r.1 ≤ 1000000000 := by
  have hs : smL smDEntry l := smz_L smz_DEntry l (by omega)
  refine ⟨_, s_Squash hs, i_Squash hs, ?_⟩
  have hl : l.length ≤ 1048576 := by unfold lenL at h; omega
  unfold squash
  cases hf : sqFold l [] with
  | none => simp [lenL, sumL]
  | some o =>
    have g := sqFold_ok l [] o hf (fun _ h => by cases h)
    have z := sz_ops o g.1
    simp only [List.length_nil] at g
    simp only
    unfold lenL
    omega
end Go.Proofs.Ythfkcpdechjmnaa
