/- Undo after a change of another. No condition. -/
import Derived.Test.YthfkcpdechjmnaaMA
import Derived.Test.YthfkcpdechjmnaaLV
namespace Go.Proofs.Ythfkcpdechjmnaa

theorem shf_last {l : List (List DPart)} {v : List DPart} (h0 : 0 < l.length) (h : (shf l v).2 = true) : lastOp (shf l v).1 = ledY v (lastOp l) ∧ (led v (lastOp l)).2.2 = true := by
  obtain ⟨z, h1, h2⟩ := shf_get h
  have e := take_rev (l := l) (i := l.length - 1) (by omega)
  rw [show l.length - 1 + 1 = l.length by omega, List.take_length] at e
  rw [e, shR] at h1
  change (if (led v (lastOp l)).2.2 = true then _ else _) = _ at h1
  split at h1
  · rename_i hd
    refine ⟨?_, hd⟩
    have g := led_get hd
    cases hr : shR (l.take (l.length - 1)).reverse (led v (el l (l.length - 1))).1 with
    | none => rw [hr] at h1; cases h1
    | some y =>
      rw [hr] at h1
      simp only [Option.map_some, Option.some.injEq] at h1
      rw [h2, ← h1]
      unfold lastOp
      simp only [List.reverse_cons, List.length_append, List.length_singleton, Nat.add_sub_cancel]
      rw [el_eq (by simp)]
      simp only [List.getElem_append_right (Nat.le_refl _), Nat.sub_self, List.getElem_singleton]
      change (led v (lastOp l)).2.1 = _
      rw [g.2.2.2.2.2]
      rfl
  · cases h1
theorem math_FnOther (code : List UInt8) (_ : wfL wfY code) : x_laws_FnOther code = some true := by
  unfold x_laws_FnOther
  by_cases hl : (1048576 : Int) < (code.length : Int)
  · rw [cd_t hl]
  rw [cd_f hl]
  obtain ⟨p, t, p1, p2⟩ := s_MakeStory code (by omega)
  have hb := p2.bd
  obtain ⟨o, o1, o2, o3, o4, o5⟩ := s_MakeOp code t.length (by omega) (by omega) (by omega)
  obtain ⟨d1, d2, d3⟩ := st_do (C := 126) p2 o2 o3 (by omega) (by omega)
  obtain ⟨i1, i2, i3, i4, i5⟩ := inv_facts d3
  have pl := push_last p.undo (inv o t).1
  have hb2 := d2.bd
  obtain ⟨c, c1, c2, c3, c4, c5⟩ := s_MakeOp ([7] ++ code) (appl o t).length (by simp; omega) (by omega) (by omega)
  have oy := other_yes d2 c2 c3 (by omega)
  obtain ⟨e1, e2, e3, e4⟩ := st_other d2 c2 c3 oy
  simp only at e3 e4
  have sl := shf_last pl.1 e4
  rw [pl.2] at sl
  have hu : 0 < (pastOther ⟨toOf o, push p.undo (inv o t).1, []⟩ c).1.undo.length := by
    have := (shf_ok (by rw [c3, d2.ln]; exact (okStory_get d2.ok).2.2.2.1) e4).2
    rw [e3, this]; exact pl.1
  obtain ⟨u1, u2, u3⟩ := st_undo e1 hu
  rw [e3, sl.1] at u3
  have lg := led_get sl.2
  have ls := led_sums lg.1 lg.2.1 lg.2.2.1
  have meet := led_meet (t := appl o t) lg.1 lg.2.1 lg.2.2.1 c3
  rw [i5] at meet
  have fx : fits (ledX c (inv o t).1) t = true := by unfold fits; rw [lg.2.2.2.1, p2.tx, ls.1, i4, o3]; simp
  have iv : (inv o t).2 = true := by rw [inv_fst d3]
  rw [p1, Option.bind_some]
  simp only
  rw [o1, Option.bind_some, i_PastDo _ _ _ (sm_story p2.ok), d1, Option.bind_some, i_Apply, if_pos d3, Option.bind_some]
  simp only
  rw [xg_of ⟨by decide, by decide⟩, xg_of (by simp; omega), c1, Option.bind_some, i_PastOther _ _ (sm_story d2.ok), Option.bind_some, i_Apply, if_pos e2, Option.bind_some]
  simp only
  rw [i_PastUndo _ _ (sm_story e1.ok) (by have := (okStory_get e1.ok).2.2.1; omega), u1, e3, sl.1, Option.bind_some]
  simp only
  rw [i_Apply, if_pos u3, Option.bind_some, i_Invert, Option.bind_some, i_Transform, lg.2.2.2.2.2, Option.bind_some]
  simp only
  rw [i_Apply, if_pos fx, Option.bind_some, oy, iv]
  simp only [cd_T, Option.bind_some]
  rw [i_SignsSame, decide_eq_true meet]
  rfl
end Go.Proofs.Ythfkcpdechjmnaa
