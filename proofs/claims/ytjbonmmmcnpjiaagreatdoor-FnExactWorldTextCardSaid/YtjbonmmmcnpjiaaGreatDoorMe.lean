/- Entries: those of one client, what these gain, and what many of them do to a text. No condition. -/
import Derived.Test.YtjbonmmmcnpjiaaGreatDoorMs
import Derived.Test.YtjbonmmmcnpjiaaGreatDoorG8
namespace Go.Proofs.YtjbonmmmcnpjiaaGreatDoor

def okEntry (e : DEntry) : Bool := (decide (1 ≤ e.client ∧ e.client ≤ 8) && decide (1 ≤ e.seq ∧ e.seq ≤ 1000000000)) && isNorm e.o
theorem i_EntryOk (e : DEntry) : x_impl_EntryOk e = some (okEntry e) := by
  unfold x_impl_EntryOk okEntry
  simp only [i_within, i_IsNorm, Option.bind_some, cs_, ca_]; rfl
theorem s_EntryOk (e : DEntry) : x_spec_EntryOk e = some (okEntry e) := by
  unfold x_spec_EntryOk okEntry
  simp only [s_In, s_IsNorm, Option.bind_some, cs_, ca_]; rfl
-- Many operations, one behind the other
def appAll : List (List DPart) → List Int → Option (List Int)
  | [], t => some t
  | o :: r, t => if fits o t then appAll r (appl o t) else none
def told : Option (List Int) → List Int × Bool
  | some u => (u, true)
  | none => ([], false)
theorem i_ApplyAll (l : List (List DPart)) (t : List Int) : x_impl_ApplyAll l t = some (if okText t then told (appAll l t) else ([], false)) := by
  unfold x_impl_ApplyAll
  rw [i_TextOk, Option.bind_some]
  cases h : okText t with
  | false => rfl
  | true =>
    have := okText_len h
    rw [Bool.not_true, cd_F, i_copyInts (by omega), Option.bind_some, each_run (F := x_impl_ApplyAll_f0 l) (e := fun (s : List Int) => (Sum.inl s : Sum (List Int) Unit)) l (fun _ _ _ => True) (fun r _ s => match appAll r s with | some u => Sum.inl u | none => Sum.inr ()) (fun s _ => rfl) (fun x r k s hk hx _ => by
      unfold x_impl_ApplyAll_f0 x_impl_ApplyAll_b0
      rw [hx, i_Apply, Option.bind_some, appAll]
      cases hf : fits x s with
      | false => exact .inr rfl
      | true => exact .inl ⟨_, rfl, trivial, rfl⟩) t trivial, Option.bind_some]
    cases appAll l t <;> rfl
def foldE : List DEntry → List Int → Option (List Int)
  | [], t => some t
  | e :: r, t => if fits e.o t && okEntry e then foldE r (appl e.o t) else none
theorem foldE_all : ∀ (l : List DEntry) (t : List Int), l.all okEntry = true → foldE l t = appAll (l.map fun e => e.o) t
  | [], t, _ => rfl
  | e :: l, t, h => by
    simp only [List.all_cons, Bool.and_eq_true] at h
    rw [foldE, List.map_cons, appAll, h.1, Bool.and_true]
    split
    · exact foldE_all l _ h.2
    · rfl
theorem foldE_no : ∀ (l : List DEntry) (t : List Int), l.all okEntry = false → foldE l t = none
  | [], t, h => by cases h
  | e :: l, t, h => by
    rw [foldE]
    cases he : okEntry e with
    | false => simp
    | true =>
      simp only [List.all_cons, he, Bool.true_and] at h
      split
      · exact foldE_no l _ h
      · rfl
theorem i_opsOf {l : List DEntry} (h : smL smDEntry l) : x_impl_opsOf l = some (l.map fun e => e.o) := by
  unfold x_impl_opsOf
  have hl := h.1
  rw [each_run (F := x_impl_opsOf_f0 l) (e := fun (s : List (List DPart)) => s) l (fun r k s => s.length ≤ k) (fun r _ s => s ++ r.map fun e => e.o) (fun s _ => by simp) (fun x r k s hk hx hP => by
    unfold x_impl_opsOf_f0 x_impl_opsOf_b0
    rw [hx, i_copyOp (h.2 _ (hx ▸ el_mem hk)).2.2, Option.bind_some, xg_of (by omega)]
    exact .inl ⟨_, rfl, by simp; omega, by simp⟩) [] (by simp)]
  simp
end Go.Proofs.YtjbonmmmcnpjiaaGreatDoor
