/- Operations that take back, copies, and stories. No condition. -/
import Derived.Test.YtjbonmmmcnpjiaaGreatDoorMk
import Derived.Test.YtjbonmmmcnpjiaaGreatDoorG7
namespace Go.Proofs.YtjbonmmmcnpjiaaGreatDoor

-- Taking back
def invL : List DPart → List Int → List DPart
  | [], _ => []
  | p :: o, t => if p.kind = 1 then p :: invL o (t.drop p.n.toNat) else if p.kind = 3 then ⟨2, 0, t.take p.n.toNat⟩ :: invL o (t.drop p.n.toNat) else ⟨3, (p.signs.length : Int), []⟩ :: invL o t
def inv (o : List DPart) (t : List Int) : List DPart × Bool := if fits o t then (nrm (invL (nrm o) t), true) else ([], false)
theorem okText_signs {t : List Int} (h : okText t = true) : t.all okSign = true := by
  unfold okText at h
  simp only [Bool.and_eq_true] at h
  exact h.2
-- Copies
theorem copy_loop {T : Type} [Inhabited T] {f : Nat → List T → Option (Lr (List T) (List T))} (l : List T) (hl : l.length ≤ 1099511627776) (hf : ∀ k s, k < l.length → s.length ≤ k → f k s = some (.go (s ++ [el l k]))) : eachN f (fun (s : List T) => (s : List T)) l.length 0 [] = some l := by
  have h := each_run (F := f) (e := fun (s : List T) => s) l (fun r k s => s.length ≤ k) (fun r _ s => s ++ r) (fun s _ => by simp) (fun x r k s hk hx hP => .inl ⟨_, hf k s hk hP, by simp; omega, by simp [hx]⟩) [] (by simp)
  simpa using h
theorem i_copyOp {o : List DPart} (h : smL smDPart o) : x_impl_copyOp o = some o := by
  unfold x_impl_copyOp
  rw [copy_loop o h.1 (fun k s hk hs => by
    have hm := h.2 _ (el_mem hk)
    have h1 := h.1
    unfold x_impl_copyOp_f0 x_impl_copyOp_b0
    rw [i_copyInts hm.2.2.1, Option.bind_some, xg_of (by omega)])]
  rfl
def push (l : List (List DPart)) (o : List DPart) : List (List DPart) := if 8 < (l ++ [o]).length then (l ++ [o]).drop 1 else l ++ [o]

-- Stories
def isNorm (o : List DPart) : Bool := okOp o && decide (o = nrm o)
-- Sizes
end Go.Proofs.YtjbonmmmcnpjiaaGreatDoor
