/- Undo takes back, and redo does again. No condition. -/
import Derived.Test.YthfkcpdechjmnaaMA
import Derived.Test.YthfkcpdechjmnaaLU
namespace Go.Proofs.Ythfkcpdechjmnaa

theorem same_self (l : List (List DPart)) : x_slices_EqualFunc_impl_Part_impl_Part_impl_Part_impl_Part_v2 l l = some true := by
  unfold x_slices_EqualFunc_impl_Part_impl_Part_impl_Part_impl_Part_v2
  rw [decide_eq_true (rfl : (l.length : Int) = l.length), Bool.not_true, cd_F, each_all (b := .inr ()) l (fun _ => true) (fun x k hk hx => by
    unfold x_slices_EqualFunc_impl_Part_impl_Part_impl_Part_impl_Part_v2_f0 x_slices_EqualFunc_impl_Part_impl_Part_impl_Part_impl_Part_v2_b0
    rw [xg_of ⟨by omega, by omega⟩, i_OpSame, Option.bind_some, decide_eq_true rfl]; rfl)]
  have : l.all (fun _ => true) = true := List.all_eq_true.2 fun _ _ => rfl
  rw [this]; rfl
theorem i_PastSame_self (p : DStory) : x_impl_PastSame p p = some true := by
  unfold x_impl_PastSame
  rw [same_self, same_self, decide_eq_true rfl]; rfl

theorem push_short {l : List (List DPart)} (x : List DPart) (h : l.length < 8) : push l x = l ++ [x] := by
  unfold push
  rw [if_neg (by simp only [List.length_append, List.length_singleton]; omega)]
theorem push_again {l : List (List DPart)} (x : List DPart) (hl : l.length ≤ 8) : push ((push l x).take ((push l x).length - 1)) x = push l x := by
  have h0 := push_last l x
  have hlen : (push l x).length ≤ 8 := by
    unfold push
    split
    · rw [List.length_drop]; simp; omega
    · omega
  have e : (push l x).take ((push l x).length - 1) ++ [x] = push l x := by
    have := List.take_append_getElem (show (push l x).length - 1 < (push l x).length by omega)
    rw [show (push l x).length - 1 + 1 = (push l x).length by omega, List.take_length] at this
    have e2 := h0.2
    unfold lastOp at e2
    rw [el_eq (by omega)] at e2
    rw [← this] 
    rw [e2] at this ⊢
    simp [List.length_take]
  rw [push_short _ (by rw [List.length_take]; omega), e]

theorem math_FnUndo (code : List UInt8) (_ : wfL wfY code) : x_laws_FnUndo code = some true := by
  unfold x_laws_FnUndo
  by_cases hl : (1048576 : Int) < (code.length : Int)
  · rw [cd_t hl]
  rw [cd_f hl]
  obtain ⟨p, t, p1, p2⟩ := s_MakeStory code (by omega)
  have hb := p2.bd
  obtain ⟨o, o1, o2, o3, o4, o5⟩ := s_MakeOp code t.length (by omega) (by omega) (by omega)
  obtain ⟨d1, d2, d3⟩ := st_do (C := 126) p2 o2 o3 (by omega) (by omega)
  have g := okStory_get p2.ok
  obtain ⟨i1, i2, i3, i4, i5⟩ := inv_facts d3
  have pl := push_last p.undo (inv o t).1
  obtain ⟨u1, u2, u3⟩ := st_undo d2 pl.1
  simp only [pl.2, i5] at u1 u2 u3
  have ii := inv_inv d3
  rw [ii] at u1 u2
  have pn : push [] (nrm o) = [nrm o] := rfl
  rw [pn] at u1 u2
  have ln : lastOp [nrm o] = nrm o := rfl
  obtain ⟨r1, r2, r3⟩ := st_redo u2 (by simp)
  simp only [ln] at r1 r2 r3
  have hk := okOp_kinds o2
  rw [inv_nrm d3, push_again _ g.2.1, to_nrm hk] at r1
  rw [p1, Option.bind_some]
  simp only
  rw [o1, Option.bind_some, i_PastDo _ _ _ (sm_story p2.ok), d1, Option.bind_some, i_Apply, if_pos d3, Option.bind_some]
  simp only
  rw [i_PastUndo _ _ (sm_story d2.ok) (by simp), u1, Option.bind_some]
  simp only
  rw [i_Apply, if_pos u3, i5, Option.bind_some]
  simp only
  rw [i_PastRedo _ _ (sm_story u2.ok) (by have := (okStory_get u2.ok).2.1; simp only at this ⊢; omega), r1, Option.bind_some]
  simp only
  rw [i_Apply, if_pos r3, appl_nrm hk, Option.bind_some]
  simp only [cd_T, Option.bind_some]
  rw [i_SignsSame, decide_eq_true rfl, Option.bind_some, Option.bind_some]
  simp only [cd_T]
  rw [i_SignsSame, decide_eq_true rfl, Option.bind_some, Option.bind_some]
  simp only [cd_T]
  rw [i_PastOk _ (sm_story p2.ok), p2.ok, Option.bind_some, Option.bind_some]
  simp only [cd_T]
  rw [i_PastOk _ (sm_story u2.ok), u2.ok, Option.bind_some, Option.bind_some]
  simp only [cd_T]
  have hs : (List.take ([nrm o].length - 1) [nrm o]) = [] := rfl
  rw [hs, i_PastSame_self, Option.bind_some, Option.bind_some]
  simp only [cd_T]
  rw [i_OpNorm, if_pos o2, Option.bind_some, i_OpSame, decide_eq_true rfl]
  rfl

end Go.Proofs.Ythfkcpdechjmnaa
