/- Operations that take back, copies, and stories. No condition. -/
import Derived.Test.YtlgmikaemfbmaaaGreatMk
import Derived.Test.YtlgmikaemfbmaaaGreatG7
namespace Go.Proofs.YtlgmikaemfbmaaaGreat

-- Taking back
theorem okText_signs {t : List Int} (h : okText t = true) : t.all okSign = true := by
  unfold okText at h
  simp only [Bool.and_eq_true] at h
  exact h.2
-- Copies
theorem copy_loop {T : Type} [Inhabited T] {f : Nat → List T → Option (Lr (List T) (List T))} (l : List T) (hl : l.length ≤ 1099511627776) (hf : ∀ k s, k < l.length → s.length ≤ k → f k s = some (.go (s ++ [el l k]))) : eachN f (fun (s : List T) => (s : List T)) l.length 0 [] = some l := by
  have h := each_run (F := f) (e := fun (s : List T) => s) l (fun r k s => s.length ≤ k) (fun r _ s => s ++ r) (fun s _ => by simp) (fun x r k s hk hx hP => .inl ⟨_, hf k s hk hP, by simp; omega, by simp [hx]⟩) [] (by simp)
  simpa using h
theorem i_copyOp {o : List DPart} (h : smL smDPart o) : x_impl_copyOp o = some o := by
  unfold x_impl_copyOp
  rw [copy_loop o h.1 (fun k s hk hs => by
    have hm := h.2 _ (el_mem hk)
    have h1 := h.1
    unfold x_impl_copyOp_f0 x_impl_copyOp_b0
    rw [i_copyInts hm.2.2.1, Option.bind_some, xg_of (by omega)])]
  rfl
theorem s_copyOp {o : List DPart} (h : smL smDPart o) : x_spec_l02Copy o = some o := by
  unfold x_spec_l02Copy
  rw [copy_loop o h.1 (fun k s hk hs => by
    have hm := h.2 _ (el_mem hk)
    have h1 := h.1
    have h2 := hm.2.2.1
    unfold x_spec_l02Copy_f0 x_spec_l02Copy_b0
    rw [xg_of (by omega), xg_of (by simp; omega)]; rfl)]
  rfl
def push (l : List (List DPart)) (o : List DPart) : List (List DPart) := if 8 < (l ++ [o]).length then (l ++ [o]).drop 1 else l ++ [o]

-- Stories
def isNorm (o : List DPart) : Bool := okOp o && decide (o = nrm o)
theorem isNorm_ok {o : List DPart} (h : isNorm o = true) : okOp o = true ∧ nrm o = o := by
  unfold isNorm at h
  simp only [Bool.and_eq_true, decide_eq_true_eq] at h
  exact ⟨h.1, h.2.symm⟩
-- Sizes
end Go.Proofs.YtlgmikaemfbmaaaGreat
