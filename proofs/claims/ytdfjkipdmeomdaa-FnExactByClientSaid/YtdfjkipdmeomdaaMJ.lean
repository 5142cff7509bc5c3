/- Entries of one client. No condition. -/
import Derived.Test.YtdfjkipdmeomdaaMk
import Derived.Test.YtdfjkipdmeomdaaTB
namespace Go.Proofs.Ytdfjkipdmeomdaa

theorem copy_loop {T : Type} [Inhabited T] {f : Nat → List T → Option (Lr (List T) (List T))} (l : List T) (hl : l.length ≤ 1099511627776) (hf : ∀ k s, k < l.length → s.length ≤ k → f k s = some (.go (s ++ [el l k]))) : eachN f (fun (s : List T) => (s : List T)) l.length 0 [] = some l := by
  have h := each_run (F := f) (e := fun (s : List T) => s) l (fun r k s => s.length ≤ k) (fun r _ s => s ++ r) (fun s _ => by simp) (fun x r k s hk hx hP => .inl ⟨_, hf k s hk hP, by simp; omega, by simp [hx]⟩) [] (by simp)
  simpa using h
theorem i_copyOp {o : List DPart} (h : smL smDPart o) : x_impl_copyOp o = some o := by
  unfold x_impl_copyOp
  rw [copy_loop o h.1 (fun k s hk hs => by
    have hm := h.2 _ (el_mem hk)
    have h1 := h.1
    unfold x_impl_copyOp_f0 x_impl_copyOp_b0
    rw [i_copyInts hm.2.2.1, Option.bind_some, xg_of (by omega)])]
  rfl
theorem s_copyOp {o : List DPart} (h : smL smDPart o) : x_spec_l02Copy o = some o := by
  unfold x_spec_l02Copy
  rw [copy_loop o h.1 (fun k s hk hs => by
    have hm := h.2 _ (el_mem hk)
    have h1 := h.1
    have h2 := hm.2.2.1
    unfold x_spec_l02Copy_f0 x_spec_l02Copy_b0
    rw [xg_of (by omega), xg_of (by simp; omega)]; rfl)]
  rfl
theorem i_copyEntries {l : List DEntry} (h : smL smDEntry l) : x_impl_copyEntries l = some l := by
  unfold x_impl_copyEntries
  rw [copy_loop l h.1 (fun k s hk hs => by
    have h1 := h.1
    unfold x_impl_copyEntries_f0 x_impl_copyEntries_b0
    rw [i_copyOp (h.2 _ (el_mem hk)).2.2, Option.bind_some, xg_of (by omega)])]
  rfl
theorem s_Entry {e : DEntry} (h : smDEntry e) : x_spec_l08Entry e = some e := by
  unfold x_spec_l08Entry
  rw [s_copyOp h.2.2]; rfl
def byClient (l : List DEntry) (c : Int) : List DEntry := l.filter fun e => decide (e.client = c)
theorem i_ByClient {l : List DEntry} (h : smL smDEntry l) (c : Int) : x_impl_ByClient l c = some (byClient l c) := by
  unfold x_impl_ByClient byClient
  have hl := h.1
  rw [i_copyEntries h, Option.bind_some, each_run (F := x_impl_ByClient_f0 c l) (e := fun (s : List DEntry) => s) l (fun r k s => s.length ≤ k) (fun r _ s => s ++ r.filter fun e => decide (e.client = c)) (fun s _ => by simp) (fun x r k s hk hx hP => by
    unfold x_impl_ByClient_f0 x_impl_ByClient_b0
    rw [hx, List.filter_cons]
    by_cases hc : x.client = c
    · rw [cd_t hc, xg_of (by omega), if_pos (by simpa using hc)]
      exact .inl ⟨_, rfl, by simp; omega, by simp⟩
    · rw [cd_f hc, if_neg (by simpa using hc)]
      exact .inl ⟨_, rfl, by omega, rfl⟩) [] (by simp)]
  simp
theorem s_ByClient {l : List DEntry} (h : smL smDEntry l) (c : Int) : x_spec_ByClient l c = some (byClient l c) := by
  unfold x_spec_ByClient byClient
  have hl := h.1
  rw [each_run (F := x_spec_ByClient_f0 c l) (e := fun (s : List DEntry) => s) l (fun r k s => s.length ≤ k) (fun r _ s => s ++ r.filter fun e => decide (e.client = c)) (fun s _ => by simp) (fun x r k s hk hx hP => by
    unfold x_spec_ByClient_f0 x_spec_ByClient_b0
    rw [hx]
    by_cases hc : x.client = c
    · rw [cd_t hc, s_Entry (h.2 _ (hx ▸ el_mem hk)), Option.bind_some, xg_of (by omega)]
      exact .inl ⟨_, rfl, by simp; omega, by simp [hc]⟩
    · rw [cd_f hc]
      exact .inl ⟨_, rfl, by omega, by simp [hc]⟩) [] (by simp)]
  simp
theorem byClient_len (l : List DEntry) (c : Int) : (byClient l c).length ≤ l.length := List.length_filter_le _ _
theorem sumL_filter {T : Type} (c : T → Nat) (p : T → Bool) : ∀ l : List T, sumL c (l.filter p) ≤ sumL c l
  | [] => Nat.le_refl _
  | x :: l => by
    have ih := sumL_filter c p l
    rw [List.filter_cons]
    split
    · show c x + sumL c (l.filter p) ≤ c x + sumL c l; omega
    · show sumL c (l.filter p) ≤ c x + sumL c l; omega
theorem ex_FnExactByClient (l : List DEntry) (c : Int) (_ : wfL wfDEntry l) (_ : wfI c) (h : lenL szDEntry l ≤ 1048576) : ∃ r, x_spec_ByClient l c = some r ∧ x_impl_ByClient l c = some r ∧ lenL szDEntry r ≤ 1000000000 := by
  have hs : smL smDEntry l := smz_L smz_DEntry l (by omega)
  refine ⟨_, s_ByClient hs c, i_ByClient hs c, ?_⟩
  have h1 := sumL_filter szDEntry (fun e => decide (e.client = c)) l
  have h2 := byClient_len l c
  unfold lenL at h ⊢
  unfold byClient at h2 ⊢
  omega
end Go.Proofs.Ytdfjkipdmeomdaa
