/- Entries: those of one client, what these gain, and what many of them do to a text. No condition. -/
import Derived.Test.YtlgmikaemfbmaaaGreatMs
import Derived.Test.YtlgmikaemfbmaaaGreatG8
namespace Go.Proofs.YtlgmikaemfbmaaaGreat

def okEntry (e : DEntry) : Bool := (decide (1 ≤ e.client ∧ e.client ≤ 8) && decide (1 ≤ e.seq ∧ e.seq ≤ 1000000000)) && isNorm e.o
theorem i_EntryOk (e : DEntry) : x_impl_EntryOk e = some (okEntry e) := by
  unfold x_impl_EntryOk okEntry
  simp only [i_within, i_IsNorm, Option.bind_some, cs_, ca_]; rfl
theorem s_EntryOk (e : DEntry) : x_spec_EntryOk e = some (okEntry e) := by
  unfold x_spec_EntryOk okEntry
  simp only [s_In, s_IsNorm, Option.bind_some, cs_, ca_]; rfl
theorem i_copyEntries {l : List DEntry} (h : smL smDEntry l) : x_impl_copyEntries l = some l := by
  unfold x_impl_copyEntries
  rw [copy_loop l h.1 (fun k s hk hs => by
    have h1 := h.1
    unfold x_impl_copyEntries_f0 x_impl_copyEntries_b0
    rw [i_copyOp (h.2 _ (el_mem hk)).2.2, Option.bind_some, xg_of (by omega)])]
  rfl
theorem s_Entry {e : DEntry} (h : smDEntry e) : x_spec_l08Entry e = some e := by
  unfold x_spec_l08Entry
  rw [s_copyOp h.2.2]; rfl
def byClient (l : List DEntry) (c : Int) : List DEntry := l.filter fun e => decide (e.client = c)
theorem byClient_len (l : List DEntry) (c : Int) : (byClient l c).length ≤ l.length := List.length_filter_le _ _
def gP (e : DEntry) : Int := if okOp e.o then putsOf e.o else 0
def gD (e : DEntry) : Int := if okOp e.o then dropsOf e.o else 0
theorem g_bd (e : DEntry) : (0 ≤ gP e ∧ gP e ≤ 200) ∧ 0 ≤ gD e ∧ gD e ≤ 200 := by
  unfold gP gD
  split
  · rename_i h; have := okOp_all h; omega
  · omega
theorem gain_loop {f : Nat → Int × Int → Option (Lr (Int × Int) (Int × Int))} (l : List DEntry) (hl : l.length ≤ 1099511627776) (hf : ∀ k s, k < l.length → f k s = (xg (inI (s.1 + gP (el l k))) <| xg (inI (s.2 + gD (el l k))) <| some (Lr.go (s.1 + gP (el l k), s.2 + gD (el l k))))) :
    eachN f (fun (s : Int × Int) => ((s.1, s.2) : Int × Int)) l.length 0 (0, 0) = some (sumI gP l, sumI gD l) := by
  have h := each_run (F := f) (e := fun (s : Int × Int) => ((s.1, s.2) : Int × Int)) l (fun r k s => (0 ≤ s.1 ∧ s.1 ≤ 200 * k) ∧ 0 ≤ s.2 ∧ s.2 ≤ 200 * k) (fun r _ s => (s.1 + sumI gP r, s.2 + sumI gD r)) (fun s _ => by simp [sumI]) (fun x r k s hk hx hP => by
    have hb := g_bd x
    refine .inl ⟨(s.1 + gP x, s.2 + gD x), ?_, ⟨⟨by simp only; omega, by simp only; omega⟩, by simp only; omega, by simp only; omega⟩, by simp only [sumI, Int.add_assoc]⟩
    rw [hf k s hk, hx, xg_I (by omega) (by omega), xg_I (by omega) (by omega)]) (0, 0) (by simp)
  simpa using h

-- Many operations, one behind the other
def appAll : List (List DPart) → List Int → Option (List Int)
  | [], t => some t
  | o :: r, t => if fits o t then appAll r (appl o t) else none
def told : Option (List Int) → List Int × Bool
  | some u => (u, true)
  | none => ([], false)
theorem i_ApplyAll (l : List (List DPart)) (t : List Int) : x_impl_ApplyAll l t = some (if okText t then told (appAll l t) else ([], false)) := by
  unfold x_impl_ApplyAll
  rw [i_TextOk, Option.bind_some]
  cases h : okText t with
  | false => rfl
  | true =>
    have := okText_len h
    rw [Bool.not_true, cd_F, i_copyInts (by omega), Option.bind_some, each_run (F := x_impl_ApplyAll_f0 l) (e := fun (s : List Int) => (Sum.inl s : Sum (List Int) Unit)) l (fun _ _ _ => True) (fun r _ s => match appAll r s with | some u => Sum.inl u | none => Sum.inr ()) (fun s _ => rfl) (fun x r k s hk hx _ => by
      unfold x_impl_ApplyAll_f0 x_impl_ApplyAll_b0
      rw [hx, i_Apply, Option.bind_some, appAll]
      cases hf : fits x s with
      | false => exact .inr rfl
      | true => exact .inl ⟨_, rfl, trivial, rfl⟩) t trivial, Option.bind_some]
    cases appAll l t <;> rfl
def foldE : List DEntry → List Int → Option (List Int)
  | [], t => some t
  | e :: r, t => if fits e.o t && okEntry e then foldE r (appl e.o t) else none
def fold (t : List Int) (l : List DEntry) : List Int × Bool := if okText t then told (foldE l t) else ([], false)
theorem foldE_all : ∀ (l : List DEntry) (t : List Int), l.all okEntry = true → foldE l t = appAll (l.map fun e => e.o) t
  | [], t, _ => rfl
  | e :: l, t, h => by
    simp only [List.all_cons, Bool.and_eq_true] at h
    rw [foldE, List.map_cons, appAll, h.1, Bool.and_true]
    split
    · exact foldE_all l _ h.2
    · rfl
theorem foldE_no : ∀ (l : List DEntry) (t : List Int), l.all okEntry = false → foldE l t = none
  | [], t, h => by cases h
  | e :: l, t, h => by
    rw [foldE]
    cases he : okEntry e with
    | false => simp
    | true =>
      simp only [List.all_cons, he, Bool.true_and] at h
      split
      · exact foldE_no l _ h
      · rfl
theorem i_opsOf {l : List DEntry} (h : smL smDEntry l) : x_impl_opsOf l = some (l.map fun e => e.o) := by
  unfold x_impl_opsOf
  have hl := h.1
  rw [each_run (F := x_impl_opsOf_f0 l) (e := fun (s : List (List DPart)) => s) l (fun r k s => s.length ≤ k) (fun r _ s => s ++ r.map fun e => e.o) (fun s _ => by simp) (fun x r k s hk hx hP => by
    unfold x_impl_opsOf_f0 x_impl_opsOf_b0
    rw [hx, i_copyOp (h.2 _ (hx ▸ el_mem hk)).2.2, Option.bind_some, xg_of (by omega)]
    exact .inl ⟨_, rfl, by simp; omega, by simp⟩) [] (by simp)]
  simp
theorem i_Fold (t : List Int) {l : List DEntry} (h : smL smDEntry l) : x_impl_Fold t l = some (fold t l) := by
  unfold x_impl_Fold fold
  rw [each_all (b := .inr ()) l okEntry (fun x k hk hx => by
    unfold x_impl_Fold_f0 x_impl_Fold_b0; rw [hx, i_EntryOk]; cases okEntry x <;> rfl), Option.bind_some]
  cases ha : l.all okEntry with
  | false => rw [foldE_no l t ha]; cases okText t <;> rfl
  | true =>
    rw [foldE_all l t ha]
    simp only [cond_true, Sum.elim_inl]
    rw [i_opsOf h, Option.bind_some, i_ApplyAll]; rfl
theorem foldE_len : ∀ (l : List DEntry) (t u : List Int), foldE l t = some u → t.length ≤ 200 → u.length ≤ 200
  | [], t, u, h, ht => by cases h; exact ht
  | e :: l, t, u, h, ht => by
    rw [foldE] at h
    split at h
    · rename_i hc
      simp only [Bool.and_eq_true] at hc
      obtain ⟨h1, h2, h3⟩ := fits_get hc.1
      have h4 := appl_len (okOp_kinds h1) h3
      have h5 := okOp_to h1
      exact foldE_len l _ u h (by omega)
    · cases h
theorem fold_len (t : List Int) (l : List DEntry) : (fold t l).1.length ≤ 200 := by
  unfold fold
  cases h : okText t with
  | false => simp
  | true =>
    cases hf : foldE l t with
    | none => simp [told]
    | some u => have := foldE_len l t u hf (okText_len h); simpa [told] using this
end Go.Proofs.YtlgmikaemfbmaaaGreat
