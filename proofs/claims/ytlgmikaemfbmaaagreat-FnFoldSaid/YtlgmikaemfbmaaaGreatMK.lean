/- Entries of one client behind one another, made one. No condition. -/
import Derived.Test.YtlgmikaemfbmaaaGreatM2
import Derived.Test.YtlgmikaemfbmaaaGreatLV
import Derived.Test.YtlgmikaemfbmaaaGreatMx
namespace Go.Proofs.YtlgmikaemfbmaaaGreat

def sqStep (out : List DEntry) (e : DEntry) : Option (List DEntry) :=
  if okEntry e then (if out.length = 0 ∨ (el out (out.length - 1)).client ≠ e.client then some (out ++ [e]) else if (compose (el out (out.length - 1)).o e.o).2 then some (out.set (out.length - 1) ⟨e.client, e.seq, (compose (el out (out.length - 1)).o e.o).1⟩) else none) else none
def sqFold : List DEntry → List DEntry → Option (List DEntry)
  | [], out => some out
  | e :: r, out => match sqStep out e with
    | some o => sqFold r o
    | none => none
def squash (l : List DEntry) : List DEntry × Bool := match sqFold l [] with
  | some o => (o, true)
  | none => ([], false)
theorem sqStep_len {out o : List DEntry} {e : DEntry} (h : sqStep out e = some o) : o.length ≤ out.length + 1 := by
  unfold sqStep at h
  split at h
  · split at h
    · cases h; simp
    · split at h
      · cases h; simp
      · cases h
  · cases h
theorem last_z {out : List DEntry} : ((out.length : Int) - 1).toNat = out.length - 1 := by omega
theorem i_Squash {l : List DEntry} (h : smL smDEntry l) : x_impl_Squash l = some (squash l) := by
  unfold x_impl_Squash squash
  have hl := h.1
  rw [i_copyEntries h, Option.bind_some, each_run (F := x_impl_Squash_f0 l) (e := fun (s : List DEntry) => (Sum.inl s : Sum (List DEntry) Unit)) l (fun r k s => s.length ≤ k) (fun r _ s => match sqFold r s with | some o => Sum.inl o | none => Sum.inr ()) (fun s _ => rfl) (fun x r k s hk hx hP => by
    unfold x_impl_Squash_f0 x_impl_Squash_b0
    rw [hx, i_EntryOk, Option.bind_some, sqFold]
    have hst : sqStep s x = if okEntry x then (if s.length = 0 ∨ (el s (s.length - 1)).client ≠ x.client then some (s ++ [x]) else if (compose (el s (s.length - 1)).o x.o).2 then some (s.set (s.length - 1) ⟨x.client, x.seq, (compose (el s (s.length - 1)).o x.o).1⟩) else none) else none := rfl
    cases ho : okEntry x with
    | false => rw [ho] at hst; rw [hst]; exact .inr rfl
    | true =>
      rw [ho, if_pos rfl] at hst
      rw [Bool.not_true, cd_F, last_z]
      by_cases h0 : s.length = 0
      · rw [if_pos (.inl h0)] at hst
        rw [cd_t (by omega), Option.bind_some, cd_T, xg_of (by omega), hst]
        exact .inl ⟨_, rfl, by simp; omega, rfl⟩
      · rw [cd_f (by omega), xg_I (by omega) (by omega), xg_of ⟨by omega, by omega⟩, Option.bind_some]
        by_cases hc : (el s (s.length - 1)).client = x.client
        · rw [if_neg (fun k => k.elim (fun k => h0 k) (fun k => k hc))] at hst
          rw [decide_eq_true hc, Bool.not_true, cd_F, xg_I (by omega) (by omega), xg_of ⟨by omega, by omega⟩, i_Compose, Option.bind_some]
          cases hd : (compose (el s (s.length - 1)).o x.o).2 with
          | false => rw [hd] at hst; rw [hst]; exact .inr rfl
          | true =>
            rw [hd, if_pos rfl] at hst
            rw [Bool.not_true, cd_F, xg_I (by omega) (by omega), xg_of ⟨by omega, by omega⟩, hst]
            exact .inl ⟨_, rfl, by simp; omega, rfl⟩
        · rw [if_pos (.inr hc)] at hst
          rw [decide_eq_false hc, Bool.not_false, cd_T, xg_of (by omega), hst]
          exact .inl ⟨_, rfl, by simp; omega, rfl⟩) [] (by simp), Option.bind_some]
  cases sqFold l [] <;> rfl
end Go.Proofs.YtlgmikaemfbmaaaGreat
