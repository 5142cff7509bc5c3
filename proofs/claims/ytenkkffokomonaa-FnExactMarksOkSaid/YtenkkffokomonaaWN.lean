/- Walks of functions of this program (printed by a program of ours, by the rules of the layer). No condition. -/
import Derived.Test.YtenkkffokomonaaWB
import Derived.Test.YtenkkffokomonaaWM
namespace Go.Proofs.Ytenkkffokomonaa
open Go.RowKit

theorem ct_laws_FnExactMarksOk (w : World) (v_aL : Value) (aL : List Mk) (a_aL : Arg w [v_aL] (dFs 3 fM aL)) (aN : Int) : Ret Try.prog 3 [v_aL, .int .i64 aN] w (fun u w' => u = .bool (true) ∧ Rel w w') := by
  refine enter Try.func3 rfl Try.ntmps3 (by kernel_rfl) rfl ?_
  have hM := St.init w
  have hM := hM.addA a_aL
  have hl_aL := Fs.le a_aL
  refine wc_seq ?_
  refine wc_region ?_
  refine wv rfl (r_assign rfl) ?_
  refine wl_nil ?_
  refine sq_n ?_
  refine wc_seq ?_
  refine wc_region ?_
  refine wv rfl (r_assign rfl) ?_
  refine wl_nil ?_
  refine sq_n ?_
  refine wc_seq ?_
  refine wc_region ?_
  refine wv rfl (r_move rfl) ?_
  refine wv rfl (r_move rfl) ?_
  refine w_call rfl rfl (ct_laws_szMarkS _ _ aL (hM.arg (.head _)) (1048576 : Int) (by omega)) ?_
  rintro _ w1 ⟨rfl, hR2⟩
  have hM := hM.call hR2
  have hsz : (if (1048576 : Int) - (aL.length : Int) < 0 then (-1 : Int) else 1048576 - (aL.length : Int)) < 0 ∨ (aL.length : Int) ≤ 1048576 := by split <;> omega
  refine wv rfl (r_assign rfl) ?_
  refine wl_nil ?_
  refine sq_n ?_
  refine wc_seq ?_
  refine wc_seq ?_
  refine wc_region ?_
  refine wv rfl (r_move rfl) ?_
  refine wv rfl (r_lss rfl rfl) ?_
  refine wl_nil ?_
  refine sq_n ?_
  refine wc_cond rfl (fun hc3 => ?_) (fun hc3 => ?_)
  · skip
    have hc3 := of_decide_eq_true hc3
    refine wc_seq ?_
    refine wc_region ?_
    refine wv rfl (r_assign rfl) ?_
    refine wl_nil ?_
    refine sq_n ?_
    refine wc_ret ?_
    refine sq_ret ?_
    refine fin_ret [(.bool true)] ⟨rfl, trivial⟩ ?_
    exact ⟨vbool (by simp), hM.rel⟩
  · skip
    have hc3 := of_decide_eq_false hc3
    refine wc_skip ?_
    refine sq_n ?_
    refine wc_seq ?_
    refine wc_region ?_
    refine wv rfl (r_move rfl) ?_
    refine w_call rfl rfl (ct_laws_toMarkS _ _ aL (hM.arg (.head _)) (by omega)) ?_
    rintro v5 w4 ⟨hR6, hov5⟩
    have hM := hM.gain hR6 hov5
    refine wv rfl (r_move rfl) ?_
    refine w_call rfl rfl (ct_spec_MarksOk _ _ aL (Of.arg (hM.at' (.head _)) (fun _ => rfl)) aN) ?_
    rintro _ w7 ⟨rfl, hR8⟩
    have hM := hM.call hR8
    refine wv rfl (r_assign rfl) ?_
    refine wl_nil ?_
    refine sq_n ?_
    refine wc_seq ?_
    refine wc_region ?_
    refine wv rfl (r_move rfl) ?_
    refine w_call rfl rfl (ct_laws_toMarkS _ _ aL (hM.arg (.head _)) (by omega)) ?_
    rintro v10 w9 ⟨hR11, hov10⟩
    have hM := hM.gain hR11 hov10
    refine wv rfl (r_assign rfl) ?_
    refine wl_nil ?_
    refine sq_n ?_
    refine wc_seq ?_
    refine wc_region ?_
    refine wv rfl (r_move rfl) ?_
    refine wv rfl (r_move rfl) ?_
    refine w_call rfl rfl (ct_impl_MarksOk _ _ aL (Of.arg (hM.at' (.head _)) (fun _ => rfl)) aN) ?_
    rintro _ w12 ⟨rfl, hR13⟩
    have hM := hM.call hR13
    refine wv rfl (r_assign rfl) ?_
    refine wl_nil ?_
    refine sq_n ?_
    refine wc_seq ?_
    refine wc_seq ?_
    refine wc_region ?_
    refine wv rfl (r_move rfl) ?_
    refine wv rfl (r_move rfl) ?_
    refine wv rfl (r_neqb Try.underlying4 rfl rfl) ?_
    refine wl_nil ?_
    refine sq_n ?_
    refine wc_cond rfl (fun hc14 => ?_) (fun hc14 => ?_)
    · skip
      exact absurd hc14 (by first | omega | (intro hn; exact hn rfl) | (simp; done) | (simp; omega))
    · skip
      refine wc_skip ?_
      refine sq_n ?_
      refine wc_seq ?_
      refine wc_seq ?_
      refine wc_region ?_
      refine wv rfl (r_move rfl) ?_
      refine wv rfl (r_move rfl) ?_
      refine w_call rfl rfl (ct_laws_toMarkS _ _ aL (hM.arg (.head _)) (by omega)) ?_
      rintro v16 w15 ⟨hR17, hov16⟩
      have hM := hM.gain hR17 hov16
      refine w_call rfl rfl (ct_laws_eqMarkS _ _ aL (Of.arg (hM.at' (.tail _ (.head _))) (fun _ => rfl)) _ aL (Of.arg (hM.at' (.head _)) (fun _ => rfl))) ?_
      rintro _ w18 ⟨rfl, hR19⟩
      have hM := hM.call hR19
      refine wv rfl (r_not rfl) ?_
      refine wl_nil ?_
      refine sq_n ?_
      refine wc_cond rfl (fun hc20 => ?_) (fun hc20 => ?_)
      · skip
        have hc20 := bnot_t hc20
        have hc20 := of_decide_eq_false hc20
        exact absurd hc20 (by first | omega | (intro hn; exact hn rfl) | (simp; done) | (simp; omega))
      · skip
        have hc20 := bnot_f hc20
        have hc20 := of_decide_eq_true hc20
        refine wc_skip ?_
        refine sq_n ?_
        refine wc_seq ?_
        refine wc_region ?_
        refine wv rfl (r_assign rfl) ?_
        refine wl_nil ?_
        refine sq_n ?_
        refine wc_ret ?_
        refine fin_ret [(.bool true)] ⟨rfl, trivial⟩ ?_
        exact ⟨vbool (by simp), hM.rel⟩

theorem ct_laws_FnExactMarkDrop (w : World) (v_aL : Value) (aL : List Mk) (a_aL : Arg w [v_aL] (dFs 3 fM aL)) (aId : Int) : Ret Try.prog 7 [v_aL, .int .i64 aId] w (fun u w' => u = .bool (true) ∧ Rel w w') := by
  refine enter Try.func7 rfl Try.ntmps7 (by kernel_rfl) rfl ?_
  have hM := St.init w
  have hM := hM.addA a_aL
  have hl_aL := Fs.le a_aL
  have hr : ((markDrop aL aId).length : Int) ≤ (aL.length : Int) := by have := drop_len aL aId aL.length; rw [List.take_length] at this; omega
  refine wc_seq ?_
  refine wc_region ?_
  refine wv rfl (r_assign rfl) ?_
  refine wl_nil ?_
  refine sq_n ?_
  refine wc_seq ?_
  refine wc_region ?_
  refine wv rfl (r_assign rfl) ?_
  refine wl_nil ?_
  refine sq_n ?_
  refine wc_seq ?_
  refine wc_region ?_
  refine wv rfl (r_move rfl) ?_
  refine wv rfl (r_move rfl) ?_
  refine w_call rfl rfl (ct_laws_szMarkS _ _ aL (hM.arg (.head _)) (1048576 : Int) (by omega)) ?_
  rintro _ w1 ⟨rfl, hR2⟩
  have hM := hM.call hR2
  have hsz : (if (1048576 : Int) - (aL.length : Int) < 0 then (-1 : Int) else 1048576 - (aL.length : Int)) < 0 ∨ (aL.length : Int) ≤ 1048576 := by split <;> omega
  refine wv rfl (r_assign rfl) ?_
  refine wl_nil ?_
  refine sq_n ?_
  refine wc_seq ?_
  refine wc_seq ?_
  refine wc_region ?_
  refine wv rfl (r_move rfl) ?_
  refine wv rfl (r_lss rfl rfl) ?_
  refine wl_nil ?_
  refine sq_n ?_
  refine wc_cond rfl (fun hc3 => ?_) (fun hc3 => ?_)
  · skip
    have hc3 := of_decide_eq_true hc3
    refine wc_seq ?_
    refine wc_region ?_
    refine wv rfl (r_assign rfl) ?_
    refine wl_nil ?_
    refine sq_n ?_
    refine wc_ret ?_
    refine sq_ret ?_
    refine fin_ret [(.bool true)] ⟨rfl, trivial⟩ ?_
    exact ⟨vbool (by simp), hM.rel⟩
  · skip
    have hc3 := of_decide_eq_false hc3
    refine wc_skip ?_
    refine sq_n ?_
    refine wc_seq ?_
    refine wc_region ?_
    refine wv rfl (r_move rfl) ?_
    refine w_call rfl rfl (ct_laws_toMarkS _ _ aL (hM.arg (.head _)) (by omega)) ?_
    rintro v5 w4 ⟨hR6, hov5⟩
    have hM := hM.gain hR6 hov5
    refine wv rfl (r_move rfl) ?_
    refine w_call rfl rfl (ct_spec_MarkDrop _ _ aL (Of.arg (hM.at' (.head _)) (fun _ => rfl)) aId (by omega)) ?_
    rintro v8 w7 ⟨hR9, hov8⟩
    have hM := hM.gain hR9 hov8
    refine wv rfl (r_assign rfl) ?_
    refine wl_nil ?_
    refine sq_n ?_
    refine wc_seq ?_
    refine wc_region ?_
    refine wv rfl (r_move rfl) ?_
    refine w_call rfl rfl (ct_laws_toMarkS _ _ aL (hM.arg (.head _)) (by omega)) ?_
    rintro v11 w10 ⟨hR12, hov11⟩
    have hM := hM.gain hR12 hov11
    refine wv rfl (r_assign rfl) ?_
    refine wl_nil ?_
    refine sq_n ?_
    refine wc_seq ?_
    refine wc_region ?_
    refine wv rfl (r_move rfl) ?_
    refine wv rfl (r_move rfl) ?_
    refine w_call rfl rfl (ct_impl_MarkDrop _ _ aL (Of.arg (hM.at' (.head _)) (fun _ => rfl)) aId (by omega)) ?_
    rintro v14 w13 ⟨hR15, hov14⟩
    have hM := hM.gain hR15 hov14
    refine wv rfl (r_assign rfl) ?_
    refine wl_nil ?_
    refine sq_n ?_
    refine wc_seq ?_
    refine wc_seq ?_
    refine wc_region ?_
    refine wv rfl (r_move rfl) ?_
    refine wv rfl (r_move rfl) ?_
    refine w_call rfl rfl (ct_laws_eqMarkS _ _ (markDrop aL aId) (Of.arg (hM.at' (.head _)) (fun _ => rfl)) _ (markDrop aL aId) (Of.arg (hM.at' (.tail _ (.tail _ (.head _)))) (fun _ => rfl))) ?_
    rintro _ w16 ⟨rfl, hR17⟩
    have hM := hM.call hR17
    refine wv rfl (r_not rfl) ?_
    refine wl_nil ?_
    refine sq_n ?_
    refine wc_cond rfl (fun hc18 => ?_) (fun hc18 => ?_)
    · skip
      have hc18 := bnot_t hc18
      have hc18 := of_decide_eq_false hc18
      exact absurd hc18 (by first | omega | (intro hn; exact hn rfl) | (simp; done) | (simp; omega))
    · skip
      have hc18 := bnot_f hc18
      have hc18 := of_decide_eq_true hc18
      refine wc_skip ?_
      refine sq_n ?_
      refine wc_seq ?_
      refine wc_seq ?_
      refine wc_region ?_
      refine wv rfl (r_move rfl) ?_
      refine wv rfl (r_move rfl) ?_
      refine w_call rfl rfl (ct_laws_toMarkS _ _ aL (hM.arg (.head _)) (by omega)) ?_
      rintro v20 w19 ⟨hR21, hov20⟩
      have hM := hM.gain hR21 hov20
      refine w_call rfl rfl (ct_laws_eqMarkS _ _ aL (Of.arg (hM.at' (.tail _ (.tail _ (.head _)))) (fun _ => rfl)) _ aL (Of.arg (hM.at' (.head _)) (fun _ => rfl))) ?_
      rintro _ w22 ⟨rfl, hR23⟩
      have hM := hM.call hR23
      refine wv rfl (r_not rfl) ?_
      refine wl_nil ?_
      refine sq_n ?_
      refine wc_cond rfl (fun hc24 => ?_) (fun hc24 => ?_)
      · skip
        have hc24 := bnot_t hc24
        have hc24 := of_decide_eq_false hc24
        exact absurd hc24 (by first | omega | (intro hn; exact hn rfl) | (simp; done) | (simp; omega))
      · skip
        have hc24 := bnot_f hc24
        have hc24 := of_decide_eq_true hc24
        refine wc_skip ?_
        refine sq_n ?_
        refine wc_seq ?_
        refine wc_region ?_
        refine wv rfl (r_assign rfl) ?_
        refine wl_nil ?_
        refine sq_n ?_
        refine wc_seq ?_
        refine wc_region ?_
        refine wv rfl (r_move rfl) ?_
        refine wv rfl (r_move rfl) ?_
        refine w_call rfl rfl (ct_laws_markMarkS _ _ aL (hM.at' (.tail _ (.tail _ (.head _)))) (1 : Int) (by omega)) ?_
        rintro _ w25 ⟨rfl, hX26, ho27⟩
        have hM := hM.roll
        have hM := hM.lentF hX26 ho27
        have hml := markedM_len aL 1 aL.length (Nat.le_refl _)
        refine wv rfl (r_assign rfl) ?_
        refine wl_nil ?_
        refine sq_n ?_
        refine wc_seq ?_
        refine wc_seq ?_
        refine wc_region ?_
        refine wv rfl (r_move rfl) ?_
        refine wv rfl (r_lss rfl rfl) ?_
        refine wv rfl (r_move rfl) ?_
        refine wl_mid 5 (fun _ : Unit => [(46, (.bool ((decide ((1 + 3 * (aL.length : Int)) < 0)) || (!(decide ((markDrop aL aId) = (markDrop aL aId))))))), (0, v_aL), (1, (.int .i64 aId)), (6, v8), (8, v14)]) (fun _ w' => St (b0 w) [oF v11 50 3 fM (markedM aL 1 aL.length), oF v20 50 3 fM aL, oF v14 50 3 fM (markDrop aL aId), oF v8 50 3 fM (markDrop aL aId), oF v5 50 3 fM aL] [([v_aL], dFs 3 fM aL)] w') ?_ ?_
        · rcases Bool.eq_false_or_eq_true (decide ((1 + 3 * (aL.length : Int)) < 0)) with hg28 | hg28
          · skip
            have hg28p := of_decide_eq_true hg28
            refine gs rfl (isB_no hg28) rfl ?_
            refine gs rfl (isB_no hg28) rfl ?_
            refine gs rfl (isB_no hg28) rfl ?_
            refine gs rfl (isB_no hg28) rfl ?_
            refine wv rfl (p_t rfl hg28 rfl) ?_
            exact mid_nil () ⟨bcongr (or_t hg28), rfl, rfl, rfl, rfl, trivial⟩ hM
          · skip
            have hg28p := of_decide_eq_false hg28
            refine gv rfl hg28 rfl (r_move rfl) ?_
            refine gv rfl hg28 rfl (r_move rfl) ?_
            refine gc rfl hg28 rfl rfl (ct_laws_eqMarkS _ _ (markDrop aL aId) (Of.arg (hM.at' (.tail _ (.tail _ (.head _)))) (fun _ => rfl)) _ (markDrop aL aId) (Of.arg (hM.at' (.tail _ (.tail _ (.tail _ (.head _))))) (fun _ => rfl))) ?_
            rintro _ w29 ⟨rfl, hR30⟩
            have hM := hM.call hR30
            refine gv rfl hg28 rfl (r_not rfl) ?_
            refine wv rfl (p_f rfl hg28 rfl) ?_
            exact mid_nil () ⟨bcongr (or_f hg28), rfl, rfl, rfl, rfl, trivial⟩ hM
        rintro _ w31 hM
        refine wl_nil ?_
        refine sq_n ?_
        refine wc_cond rfl (fun hc32 => ?_) (fun hc32 => ?_)
        · skip
          exact absurd hc32 (by first | omega | (intro hn; exact hn rfl) | (simp; done) | (simp; omega))
        · skip
          obtain ⟨hc32a, hc32b⟩ := (Bool.or_eq_false_iff).1 hc32
          have hc32a := of_decide_eq_false hc32a
          have hc32b := bnot_f hc32b
          have hc32b := of_decide_eq_true hc32b
          refine wc_skip ?_
          refine sq_n ?_
          refine wc_seq ?_
          refine wc_region ?_
          refine wv rfl (r_assign rfl) ?_
          refine wl_nil ?_
          refine sq_n ?_
          refine wc_seq ?_
          refine wc_region ?_
          refine wv rfl (r_move rfl) ?_
          refine wv rfl (r_move rfl) ?_
          refine w_call rfl rfl (ct_laws_markMarkS _ _ (markDrop aL aId) (hM.at' (.tail _ (.tail _ (.head _)))) (1 : Int) (by omega)) ?_
          rintro _ w33 ⟨rfl, hX34, ho35⟩
          have hM := hM.roll
          have hM := hM.lentF hX34 ho35
          have hml := markedM_len (markDrop aL aId) 1 (markDrop aL aId).length (Nat.le_refl _)
          refine wv rfl (r_assign rfl) ?_
          refine wl_nil ?_
          refine sq_n ?_
          refine wc_seq ?_
          refine wc_region ?_
          refine wv rfl (r_assign rfl) ?_
          refine wl_nil ?_
          refine sq_n ?_
          refine wc_seq ?_
          refine wc_region ?_
          refine wv rfl (r_move rfl) ?_
          refine wv rfl (r_move rfl) ?_
          refine w_call rfl rfl (ct_laws_heldMarkS _ _ (markedM (markDrop aL aId) 1 (markDrop aL aId).length) (Of.arg (hM.at' (.head _)) (fun _ => rfl)) (1 : Int) (by omega)) ?_
          rintro _ w36 ⟨rfl, hR37⟩
          have hM := hM.call hR37
          rw [heldM_marked]
          refine wv rfl (r_assign rfl) ?_
          refine wl_nil ?_
          refine sq_n ?_
          refine wc_seq ?_
          refine wc_seq ?_
          refine wc_region ?_
          refine wv rfl (r_move rfl) ?_
          refine wv rfl (r_lss rfl rfl) ?_
          refine wl_nil ?_
          refine sq_n ?_
          refine wc_cond rfl (fun hc38 => ?_) (fun hc38 => ?_)
          · skip
            have hc38 := of_decide_eq_true hc38
            exact absurd hc38 (by first | omega | (intro hn; exact hn rfl) | (simp; done) | (simp; omega))
          · skip
            have hc38 := of_decide_eq_false hc38
            refine wc_skip ?_
            refine sq_n ?_
            refine wc_seq ?_
            refine wc_seq ?_
            refine wc_region ?_
            refine wv rfl (r_move rfl) ?_
            refine wv rfl (r_move rfl) ?_
            refine wv rfl (r_neq rfl rfl) ?_
            refine wl_nil ?_
            refine sq_n ?_
            refine wc_cond rfl (fun hc39 => ?_) (fun hc39 => ?_)
            · skip
              have hc39 := bnot_t hc39
              have hc39 := of_decide_eq_false hc39
              exact absurd hc39 (by first | omega | (intro hn; exact hn rfl) | (simp; done) | (simp; omega))
            · skip
              have hc39 := bnot_f hc39
              have hc39 := of_decide_eq_true hc39
              refine wc_skip ?_
              refine sq_n ?_
              refine wc_seq ?_
              refine wc_region ?_
              refine wv rfl (r_move rfl) ?_
              refine w_call rfl rfl (ct_laws_toMarkS _ _ aL (hM.arg (.head _)) (by omega)) ?_
              rintro v41 w40 ⟨hR42, hov41⟩
              have hM := hM.gain hR42 hov41
              refine wv rfl (r_move rfl) ?_
              refine w_call rfl rfl (ct_impl_MarkDrop _ _ aL (Of.arg (hM.at' (.head _)) (fun _ => rfl)) aId (by omega)) ?_
              rintro v44 w43 ⟨hR45, hov44⟩
              have hM := hM.gain hR45 hov44
              refine wv rfl (r_assign rfl) ?_
              refine wl_nil ?_
              refine sq_n ?_
              refine wc_seq ?_
              refine wc_seq ?_
              refine wc_region ?_
              refine wv rfl (r_move rfl) ?_
              refine wv rfl (r_move rfl) ?_
              refine w_call rfl rfl (ct_laws_eqMarkS _ _ (markDrop aL aId) (Of.arg (hM.at' (.head _)) (fun _ => rfl)) _ (markDrop aL aId) (Of.arg (hM.at' (.tail _ (.tail _ (.tail _ (.tail _ (.tail _ (.head _))))))) (fun _ => rfl))) ?_
              rintro _ w46 ⟨rfl, hR47⟩
              have hM := hM.call hR47
              refine wv rfl (r_not rfl) ?_
              refine wl_nil ?_
              refine sq_n ?_
              refine wc_cond rfl (fun hc48 => ?_) (fun hc48 => ?_)
              · skip
                have hc48 := bnot_t hc48
                have hc48 := of_decide_eq_false hc48
                exact absurd hc48 (by first | omega | (intro hn; exact hn rfl) | (simp; done) | (simp; omega))
              · skip
                have hc48 := bnot_f hc48
                have hc48 := of_decide_eq_true hc48
                refine wc_skip ?_
                refine sq_n ?_
                refine wc_seq ?_
                refine wc_region ?_
                refine wv rfl (r_assign rfl) ?_
                refine wl_nil ?_
                refine sq_n ?_
                refine wc_seq ?_
                refine wc_region ?_
                refine wv rfl (r_move rfl) ?_
                refine wv rfl (r_move rfl) ?_
                refine w_call rfl rfl (ct_laws_heldMarkS _ _ (markedM (markDrop aL aId) 1 (markDrop aL aId).length) (Of.arg (hM.at' (.tail _ (.tail _ (.head _)))) (fun _ => rfl)) (1 : Int) (by omega)) ?_
                rintro _ w49 ⟨rfl, hR50⟩
                have hM := hM.call hR50
                rw [heldM_marked]
                refine wv rfl (r_assign rfl) ?_
                refine wl_nil ?_
                refine sq_n ?_
                refine wc_seq ?_
                refine wc_seq ?_
                refine wc_region ?_
                refine wv rfl (r_move rfl) ?_
                refine wv rfl (r_lss rfl rfl) ?_
                refine wl_nil ?_
                refine sq_n ?_
                refine wc_cond rfl (fun hc51 => ?_) (fun hc51 => ?_)
                · skip
                  have hc51 := of_decide_eq_true hc51
                  exact absurd hc51 (by first | omega | (intro hn; exact hn rfl) | (simp; done) | (simp; omega))
                · skip
                  have hc51 := of_decide_eq_false hc51
                  refine wc_skip ?_
                  refine sq_n ?_
                  refine wc_seq ?_
                  refine wc_seq ?_
                  refine wc_region ?_
                  refine wv rfl (r_move rfl) ?_
                  refine wv rfl (r_move rfl) ?_
                  refine wv rfl (r_neq rfl rfl) ?_
                  refine wl_nil ?_
                  refine sq_n ?_
                  refine wc_cond rfl (fun hc52 => ?_) (fun hc52 => ?_)
                  · skip
                    have hc52 := bnot_t hc52
                    have hc52 := of_decide_eq_false hc52
                    exact absurd hc52 (by first | omega | (intro hn; exact hn rfl) | (simp; done) | (simp; omega))
                  · skip
                    have hc52 := bnot_f hc52
                    have hc52 := of_decide_eq_true hc52
                    refine wc_skip ?_
                    refine sq_n ?_
                    refine wc_seq ?_
                    refine wc_region ?_
                    refine wv rfl (r_assign rfl) ?_
                    refine wl_nil ?_
                    refine sq_n ?_
                    refine wc_ret ?_
                    refine fin_ret [(.bool true)] ⟨rfl, trivial⟩ ?_
                    exact ⟨vbool (by simp), hM.rel⟩

theorem ct_laws_FnExactMarksAt (w : World) (v_aL : Value) (aL : List Mk) (a_aL : Arg w [v_aL] (dFs 3 fM aL)) (aAt : Int) : Ret Try.prog 9 [v_aL, .int .i64 aAt] w (fun u w' => u = .bool (true) ∧ Rel w w') := by
  refine enter Try.func9 rfl Try.ntmps9 (by kernel_rfl) rfl ?_
  have hM := St.init w
  have hM := hM.addA a_aL
  have hl_aL := Fs.le a_aL
  have hr : ((marksAt aL aAt).length : Int) ≤ (aL.length : Int) := by have := at_len aL aAt aL.length; rw [List.take_length] at this; omega
  refine wc_seq ?_
  refine wc_region ?_
  refine wv rfl (r_assign rfl) ?_
  refine wl_nil ?_
  refine sq_n ?_
  refine wc_seq ?_
  refine wc_region ?_
  refine wv rfl (r_assign rfl) ?_
  refine wl_nil ?_
  refine sq_n ?_
  refine wc_seq ?_
  refine wc_region ?_
  refine wv rfl (r_move rfl) ?_
  refine wv rfl (r_move rfl) ?_
  refine w_call rfl rfl (ct_laws_szMarkS _ _ aL (hM.arg (.head _)) (1048576 : Int) (by omega)) ?_
  rintro _ w1 ⟨rfl, hR2⟩
  have hM := hM.call hR2
  have hsz : (if (1048576 : Int) - (aL.length : Int) < 0 then (-1 : Int) else 1048576 - (aL.length : Int)) < 0 ∨ (aL.length : Int) ≤ 1048576 := by split <;> omega
  refine wv rfl (r_assign rfl) ?_
  refine wl_nil ?_
  refine sq_n ?_
  refine wc_seq ?_
  refine wc_seq ?_
  refine wc_region ?_
  refine wv rfl (r_move rfl) ?_
  refine wv rfl (r_lss rfl rfl) ?_
  refine wl_nil ?_
  refine sq_n ?_
  refine wc_cond rfl (fun hc3 => ?_) (fun hc3 => ?_)
  · skip
    have hc3 := of_decide_eq_true hc3
    refine wc_seq ?_
    refine wc_region ?_
    refine wv rfl (r_assign rfl) ?_
    refine wl_nil ?_
    refine sq_n ?_
    refine wc_ret ?_
    refine sq_ret ?_
    refine fin_ret [(.bool true)] ⟨rfl, trivial⟩ ?_
    exact ⟨vbool (by simp), hM.rel⟩
  · skip
    have hc3 := of_decide_eq_false hc3
    refine wc_skip ?_
    refine sq_n ?_
    refine wc_seq ?_
    refine wc_region ?_
    refine wv rfl (r_move rfl) ?_
    refine w_call rfl rfl (ct_laws_toMarkS _ _ aL (hM.arg (.head _)) (by omega)) ?_
    rintro v5 w4 ⟨hR6, hov5⟩
    have hM := hM.gain hR6 hov5
    refine wv rfl (r_move rfl) ?_
    refine w_call rfl rfl (ct_spec_MarksAt _ _ aL (Of.arg (hM.at' (.head _)) (fun _ => rfl)) aAt (by omega)) ?_
    rintro v8 w7 ⟨hR9, hov8⟩
    have hM := hM.gain hR9 hov8
    refine wv rfl (r_assign rfl) ?_
    refine wl_nil ?_
    refine sq_n ?_
    refine wc_seq ?_
    refine wc_region ?_
    refine wv rfl (r_move rfl) ?_
    refine w_call rfl rfl (ct_laws_toMarkS _ _ aL (hM.arg (.head _)) (by omega)) ?_
    rintro v11 w10 ⟨hR12, hov11⟩
    have hM := hM.gain hR12 hov11
    refine wv rfl (r_assign rfl) ?_
    refine wl_nil ?_
    refine sq_n ?_
    refine wc_seq ?_
    refine wc_region ?_
    refine wv rfl (r_move rfl) ?_
    refine wv rfl (r_move rfl) ?_
    refine w_call rfl rfl (ct_impl_MarksAt _ _ aL (Of.arg (hM.at' (.head _)) (fun _ => rfl)) aAt (by omega)) ?_
    rintro v14 w13 ⟨hR15, hov14⟩
    have hM := hM.gain hR15 hov14
    refine wv rfl (r_assign rfl) ?_
    refine wl_nil ?_
    refine sq_n ?_
    refine wc_seq ?_
    refine wc_seq ?_
    refine wc_region ?_
    refine wv rfl (r_move rfl) ?_
    refine wv rfl (r_move rfl) ?_
    refine w_call rfl rfl (ct_laws_eqIntS _ _ (marksAt aL aAt) (Of.arg (hM.at' (.head _)) (fun _ => rfl)) _ (marksAt aL aAt) (Of.arg (hM.at' (.tail _ (.tail _ (.head _)))) (fun _ => rfl))) ?_
    rintro _ w16 ⟨rfl, hR17⟩
    have hM := hM.call hR17
    refine wv rfl (r_not rfl) ?_
    refine wl_nil ?_
    refine sq_n ?_
    refine wc_cond rfl (fun hc18 => ?_) (fun hc18 => ?_)
    · skip
      have hc18 := bnot_t hc18
      have hc18 := of_decide_eq_false hc18
      exact absurd hc18 (by first | omega | (intro hn; exact hn rfl) | (simp; done) | (simp; omega))
    · skip
      have hc18 := bnot_f hc18
      have hc18 := of_decide_eq_true hc18
      refine wc_skip ?_
      refine sq_n ?_
      refine wc_seq ?_
      refine wc_seq ?_
      refine wc_region ?_
      refine wv rfl (r_move rfl) ?_
      refine wv rfl (r_move rfl) ?_
      refine w_call rfl rfl (ct_laws_toMarkS _ _ aL (hM.arg (.head _)) (by omega)) ?_
      rintro v20 w19 ⟨hR21, hov20⟩
      have hM := hM.gain hR21 hov20
      refine w_call rfl rfl (ct_laws_eqMarkS _ _ aL (Of.arg (hM.at' (.tail _ (.tail _ (.head _)))) (fun _ => rfl)) _ aL (Of.arg (hM.at' (.head _)) (fun _ => rfl))) ?_
      rintro _ w22 ⟨rfl, hR23⟩
      have hM := hM.call hR23
      refine wv rfl (r_not rfl) ?_
      refine wl_nil ?_
      refine sq_n ?_
      refine wc_cond rfl (fun hc24 => ?_) (fun hc24 => ?_)
      · skip
        have hc24 := bnot_t hc24
        have hc24 := of_decide_eq_false hc24
        exact absurd hc24 (by first | omega | (intro hn; exact hn rfl) | (simp; done) | (simp; omega))
      · skip
        have hc24 := bnot_f hc24
        have hc24 := of_decide_eq_true hc24
        refine wc_skip ?_
        refine sq_n ?_
        refine wc_seq ?_
        refine wc_region ?_
        refine wv rfl (r_assign rfl) ?_
        refine wl_nil ?_
        refine sq_n ?_
        refine wc_seq ?_
        refine wc_region ?_
        refine wv rfl (r_move rfl) ?_
        refine wv rfl (r_move rfl) ?_
        refine w_call rfl rfl (ct_laws_markMarkS _ _ aL (hM.at' (.tail _ (.tail _ (.head _)))) (1 : Int) (by omega)) ?_
        rintro _ w25 ⟨rfl, hX26, ho27⟩
        have hM := hM.roll
        have hM := hM.lentF hX26 ho27
        have hml := markedM_len aL 1 aL.length (Nat.le_refl _)
        refine wv rfl (r_assign rfl) ?_
        refine wl_nil ?_
        refine sq_n ?_
        refine wc_seq ?_
        refine wc_seq ?_
        refine wc_region ?_
        refine wv rfl (r_move rfl) ?_
        refine wv rfl (r_lss rfl rfl) ?_
        refine wv rfl (r_move rfl) ?_
        refine wl_mid 5 (fun _ : Unit => [(46, (.bool ((decide ((1 + 3 * (aL.length : Int)) < 0)) || (!(decide ((marksAt aL aAt) = (marksAt aL aAt))))))), (0, v_aL), (1, (.int .i64 aAt)), (6, v8), (8, v14)]) (fun _ w' => St (b0 w) [oF v11 50 3 fM (markedM aL 1 aL.length), oF v20 50 3 fM aL, oF v14 3 1 fI (marksAt aL aAt), oF v8 3 1 fI (marksAt aL aAt), oF v5 50 3 fM aL] [([v_aL], dFs 3 fM aL)] w') ?_ ?_
        · rcases Bool.eq_false_or_eq_true (decide ((1 + 3 * (aL.length : Int)) < 0)) with hg28 | hg28
          · skip
            have hg28p := of_decide_eq_true hg28
            refine gs rfl (isB_no hg28) rfl ?_
            refine gs rfl (isB_no hg28) rfl ?_
            refine gs rfl (isB_no hg28) rfl ?_
            refine gs rfl (isB_no hg28) rfl ?_
            refine wv rfl (p_t rfl hg28 rfl) ?_
            exact mid_nil () ⟨bcongr (or_t hg28), rfl, rfl, rfl, rfl, trivial⟩ hM
          · skip
            have hg28p := of_decide_eq_false hg28
            refine gv rfl hg28 rfl (r_move rfl) ?_
            refine gv rfl hg28 rfl (r_move rfl) ?_
            refine gc rfl hg28 rfl rfl (ct_laws_eqIntS _ _ (marksAt aL aAt) (Of.arg (hM.at' (.tail _ (.tail _ (.head _)))) (fun _ => rfl)) _ (marksAt aL aAt) (Of.arg (hM.at' (.tail _ (.tail _ (.tail _ (.head _))))) (fun _ => rfl))) ?_
            rintro _ w29 ⟨rfl, hR30⟩
            have hM := hM.call hR30
            refine gv rfl hg28 rfl (r_not rfl) ?_
            refine wv rfl (p_f rfl hg28 rfl) ?_
            exact mid_nil () ⟨bcongr (or_f hg28), rfl, rfl, rfl, rfl, trivial⟩ hM
        rintro _ w31 hM
        refine wl_nil ?_
        refine sq_n ?_
        refine wc_cond rfl (fun hc32 => ?_) (fun hc32 => ?_)
        · skip
          exact absurd hc32 (by first | omega | (intro hn; exact hn rfl) | (simp; done) | (simp; omega))
        · skip
          obtain ⟨hc32a, hc32b⟩ := (Bool.or_eq_false_iff).1 hc32
          have hc32a := of_decide_eq_false hc32a
          have hc32b := bnot_f hc32b
          have hc32b := of_decide_eq_true hc32b
          refine wc_skip ?_
          refine sq_n ?_
          refine wc_seq ?_
          refine wc_region ?_
          refine wv rfl (r_assign rfl) ?_
          refine wl_nil ?_
          refine sq_n ?_
          refine wc_seq ?_
          refine wc_region ?_
          refine wv rfl (r_move rfl) ?_
          refine wv rfl (r_move rfl) ?_
          refine w_call rfl rfl (ct_laws_markIntS _ _ (marksAt aL aAt) (hM.at' (.tail _ (.tail _ (.head _)))) (1 : Int) (by omega)) ?_
          rintro _ w33 ⟨rfl, hX34, ho35⟩
          have hM := hM.roll
          have hM := hM.lentF hX34 ho35
          have hml := marked_len (marksAt aL aAt) 1 (marksAt aL aAt).length (Nat.le_refl _)
          refine wv rfl (r_assign rfl) ?_
          refine wl_nil ?_
          refine sq_n ?_
          refine wc_seq ?_
          refine wc_region ?_
          refine wv rfl (r_assign rfl) ?_
          refine wl_nil ?_
          refine sq_n ?_
          refine wc_seq ?_
          refine wc_region ?_
          refine wv rfl (r_move rfl) ?_
          refine wv rfl (r_move rfl) ?_
          refine w_call rfl rfl (ct_laws_heldIntS _ _ (marked (marksAt aL aAt) 1 (marksAt aL aAt).length) (Of.arg (hM.at' (.head _)) (fun _ => rfl)) (1 : Int) (by omega)) ?_
          rintro _ w36 ⟨rfl, hR37⟩
          have hM := hM.call hR37
          rw [held_marked]
          refine wv rfl (r_assign rfl) ?_
          refine wl_nil ?_
          refine sq_n ?_
          refine wc_seq ?_
          refine wc_seq ?_
          refine wc_region ?_
          refine wv rfl (r_move rfl) ?_
          refine wv rfl (r_lss rfl rfl) ?_
          refine wl_nil ?_
          refine sq_n ?_
          refine wc_cond rfl (fun hc38 => ?_) (fun hc38 => ?_)
          · skip
            have hc38 := of_decide_eq_true hc38
            exact absurd hc38 (by first | omega | (intro hn; exact hn rfl) | (simp; done) | (simp; omega))
          · skip
            have hc38 := of_decide_eq_false hc38
            refine wc_skip ?_
            refine sq_n ?_
            refine wc_seq ?_
            refine wc_seq ?_
            refine wc_region ?_
            refine wv rfl (r_move rfl) ?_
            refine wv rfl (r_move rfl) ?_
            refine wv rfl (r_neq rfl rfl) ?_
            refine wl_nil ?_
            refine sq_n ?_
            refine wc_cond rfl (fun hc39 => ?_) (fun hc39 => ?_)
            · skip
              have hc39 := bnot_t hc39
              have hc39 := of_decide_eq_false hc39
              exact absurd hc39 (by first | omega | (intro hn; exact hn rfl) | (simp; done) | (simp; omega))
            · skip
              have hc39 := bnot_f hc39
              have hc39 := of_decide_eq_true hc39
              refine wc_skip ?_
              refine sq_n ?_
              refine wc_seq ?_
              refine wc_region ?_
              refine wv rfl (r_move rfl) ?_
              refine w_call rfl rfl (ct_laws_toMarkS _ _ aL (hM.arg (.head _)) (by omega)) ?_
              rintro v41 w40 ⟨hR42, hov41⟩
              have hM := hM.gain hR42 hov41
              refine wv rfl (r_move rfl) ?_
              refine w_call rfl rfl (ct_impl_MarksAt _ _ aL (Of.arg (hM.at' (.head _)) (fun _ => rfl)) aAt (by omega)) ?_
              rintro v44 w43 ⟨hR45, hov44⟩
              have hM := hM.gain hR45 hov44
              refine wv rfl (r_assign rfl) ?_
              refine wl_nil ?_
              refine sq_n ?_
              refine wc_seq ?_
              refine wc_seq ?_
              refine wc_region ?_
              refine wv rfl (r_move rfl) ?_
              refine wv rfl (r_move rfl) ?_
              refine w_call rfl rfl (ct_laws_eqIntS _ _ (marksAt aL aAt) (Of.arg (hM.at' (.head _)) (fun _ => rfl)) _ (marksAt aL aAt) (Of.arg (hM.at' (.tail _ (.tail _ (.tail _ (.tail _ (.tail _ (.head _))))))) (fun _ => rfl))) ?_
              rintro _ w46 ⟨rfl, hR47⟩
              have hM := hM.call hR47
              refine wv rfl (r_not rfl) ?_
              refine wl_nil ?_
              refine sq_n ?_
              refine wc_cond rfl (fun hc48 => ?_) (fun hc48 => ?_)
              · skip
                have hc48 := bnot_t hc48
                have hc48 := of_decide_eq_false hc48
                exact absurd hc48 (by first | omega | (intro hn; exact hn rfl) | (simp; done) | (simp; omega))
              · skip
                have hc48 := bnot_f hc48
                have hc48 := of_decide_eq_true hc48
                refine wc_skip ?_
                refine sq_n ?_
                refine wc_seq ?_
                refine wc_region ?_
                refine wv rfl (r_assign rfl) ?_
                refine wl_nil ?_
                refine sq_n ?_
                refine wc_seq ?_
                refine wc_region ?_
                refine wv rfl (r_move rfl) ?_
                refine wv rfl (r_move rfl) ?_
                refine w_call rfl rfl (ct_laws_heldIntS _ _ (marked (marksAt aL aAt) 1 (marksAt aL aAt).length) (Of.arg (hM.at' (.tail _ (.tail _ (.head _)))) (fun _ => rfl)) (1 : Int) (by omega)) ?_
                rintro _ w49 ⟨rfl, hR50⟩
                have hM := hM.call hR50
                rw [held_marked]
                refine wv rfl (r_assign rfl) ?_
                refine wl_nil ?_
                refine sq_n ?_
                refine wc_seq ?_
                refine wc_seq ?_
                refine wc_region ?_
                refine wv rfl (r_move rfl) ?_
                refine wv rfl (r_lss rfl rfl) ?_
                refine wl_nil ?_
                refine sq_n ?_
                refine wc_cond rfl (fun hc51 => ?_) (fun hc51 => ?_)
                · skip
                  have hc51 := of_decide_eq_true hc51
                  exact absurd hc51 (by first | omega | (intro hn; exact hn rfl) | (simp; done) | (simp; omega))
                · skip
                  have hc51 := of_decide_eq_false hc51
                  refine wc_skip ?_
                  refine sq_n ?_
                  refine wc_seq ?_
                  refine wc_seq ?_
                  refine wc_region ?_
                  refine wv rfl (r_move rfl) ?_
                  refine wv rfl (r_move rfl) ?_
                  refine wv rfl (r_neq rfl rfl) ?_
                  refine wl_nil ?_
                  refine sq_n ?_
                  refine wc_cond rfl (fun hc52 => ?_) (fun hc52 => ?_)
                  · skip
                    have hc52 := bnot_t hc52
                    have hc52 := of_decide_eq_false hc52
                    exact absurd hc52 (by first | omega | (intro hn; exact hn rfl) | (simp; done) | (simp; omega))
                  · skip
                    have hc52 := bnot_f hc52
                    have hc52 := of_decide_eq_true hc52
                    refine wc_skip ?_
                    refine sq_n ?_
                    refine wc_seq ?_
                    refine wc_region ?_
                    refine wv rfl (r_assign rfl) ?_
                    refine wl_nil ?_
                    refine sq_n ?_
                    refine wc_ret ?_
                    refine fin_ret [(.bool true)] ⟨rfl, trivial⟩ ?_
                    exact ⟨vbool (by simp), hM.rel⟩

theorem ct_laws_FnExactMarkedAll (w : World) (v_aL : Value) (aL : List Mk) (a_aL : Arg w [v_aL] (dFs 3 fM aL)) (aN : Int) : Ret Try.prog 10 [v_aL, .int .i64 aN] w (fun u w' => u = .bool (true) ∧ Rel w w') := by
  refine enter Try.func10 rfl Try.ntmps10 (by kernel_rfl) rfl ?_
  have hM := St.init w
  have hM := hM.addA a_aL
  have hl_aL := Fs.le a_aL
  refine wc_seq ?_
  refine wc_region ?_
  refine wv rfl (r_assign rfl) ?_
  refine wl_nil ?_
  refine sq_n ?_
  refine wc_seq ?_
  refine wc_region ?_
  refine wv rfl (r_assign rfl) ?_
  refine wl_nil ?_
  refine sq_n ?_
  refine wc_seq ?_
  refine wc_region ?_
  refine wv rfl (r_move rfl) ?_
  refine wv rfl (r_move rfl) ?_
  refine w_call rfl rfl (ct_laws_szMarkS _ _ aL (hM.arg (.head _)) (1048576 : Int) (by omega)) ?_
  rintro _ w1 ⟨rfl, hR2⟩
  have hM := hM.call hR2
  have hsz : (if (1048576 : Int) - (aL.length : Int) < 0 then (-1 : Int) else 1048576 - (aL.length : Int)) < 0 ∨ (aL.length : Int) ≤ 1048576 := by split <;> omega
  refine wv rfl (r_assign rfl) ?_
  refine wl_nil ?_
  refine sq_n ?_
  refine wc_seq ?_
  refine wc_seq ?_
  refine wc_region ?_
  refine wv rfl (r_move rfl) ?_
  refine wv rfl (r_lss rfl rfl) ?_
  refine wl_nil ?_
  refine sq_n ?_
  refine wc_cond rfl (fun hc3 => ?_) (fun hc3 => ?_)
  · skip
    have hc3 := of_decide_eq_true hc3
    refine wc_seq ?_
    refine wc_region ?_
    refine wv rfl (r_assign rfl) ?_
    refine wl_nil ?_
    refine sq_n ?_
    refine wc_ret ?_
    refine sq_ret ?_
    refine fin_ret [(.bool true)] ⟨rfl, trivial⟩ ?_
    exact ⟨vbool (by simp), hM.rel⟩
  · skip
    have hc3 := of_decide_eq_false hc3
    refine wc_skip ?_
    refine sq_n ?_
    refine wc_seq ?_
    refine wc_region ?_
    refine wv rfl (r_move rfl) ?_
    refine w_call rfl rfl (ct_laws_toMarkS _ _ aL (hM.arg (.head _)) (by omega)) ?_
    rintro v5 w4 ⟨hR6, hov5⟩
    have hM := hM.gain hR6 hov5
    refine wv rfl (r_move rfl) ?_
    refine w_call rfl rfl (ct_spec_MarkedAll _ _ aL (Of.arg (hM.at' (.head _)) (fun _ => rfl)) aN) ?_
    rintro _ w7 ⟨rfl, hR8⟩
    have hM := hM.call hR8
    refine wv rfl (r_assign rfl) ?_
    refine wl_nil ?_
    refine sq_n ?_
    refine wc_seq ?_
    refine wc_region ?_
    refine wv rfl (r_move rfl) ?_
    refine w_call rfl rfl (ct_laws_toMarkS _ _ aL (hM.arg (.head _)) (by omega)) ?_
    rintro v10 w9 ⟨hR11, hov10⟩
    have hM := hM.gain hR11 hov10
    refine wv rfl (r_assign rfl) ?_
    refine wl_nil ?_
    refine sq_n ?_
    refine wc_seq ?_
    refine wc_region ?_
    refine wv rfl (r_move rfl) ?_
    refine wv rfl (r_move rfl) ?_
    refine w_call rfl rfl (ct_impl_MarkedAll _ _ aL (Of.arg (hM.at' (.head _)) (fun _ => rfl)) aN) ?_
    rintro _ w12 ⟨rfl, hR13⟩
    have hM := hM.call hR13
    refine wv rfl (r_assign rfl) ?_
    refine wl_nil ?_
    refine sq_n ?_
    refine wc_seq ?_
    refine wc_seq ?_
    refine wc_region ?_
    refine wv rfl (r_move rfl) ?_
    refine wv rfl (r_move rfl) ?_
    refine wv rfl (r_neq rfl rfl) ?_
    refine wl_nil ?_
    refine sq_n ?_
    refine wc_cond rfl (fun hc14 => ?_) (fun hc14 => ?_)
    · skip
      have hc14 := bnot_t hc14
      have hc14 := of_decide_eq_false hc14
      exact absurd hc14 (by first | omega | (intro hn; exact hn rfl) | (simp; done) | (simp; omega))
    · skip
      have hc14 := bnot_f hc14
      have hc14 := of_decide_eq_true hc14
      refine wc_skip ?_
      refine sq_n ?_
      refine wc_seq ?_
      refine wc_seq ?_
      refine wc_region ?_
      refine wv rfl (r_move rfl) ?_
      refine wv rfl (r_move rfl) ?_
      refine w_call rfl rfl (ct_laws_toMarkS _ _ aL (hM.arg (.head _)) (by omega)) ?_
      rintro v16 w15 ⟨hR17, hov16⟩
      have hM := hM.gain hR17 hov16
      refine w_call rfl rfl (ct_laws_eqMarkS _ _ aL (Of.arg (hM.at' (.tail _ (.head _))) (fun _ => rfl)) _ aL (Of.arg (hM.at' (.head _)) (fun _ => rfl))) ?_
      rintro _ w18 ⟨rfl, hR19⟩
      have hM := hM.call hR19
      refine wv rfl (r_not rfl) ?_
      refine wl_nil ?_
      refine sq_n ?_
      refine wc_cond rfl (fun hc20 => ?_) (fun hc20 => ?_)
      · skip
        have hc20 := bnot_t hc20
        have hc20 := of_decide_eq_false hc20
        exact absurd hc20 (by first | omega | (intro hn; exact hn rfl) | (simp; done) | (simp; omega))
      · skip
        have hc20 := bnot_f hc20
        have hc20 := of_decide_eq_true hc20
        refine wc_skip ?_
        refine sq_n ?_
        refine wc_seq ?_
        refine wc_region ?_
        refine wv rfl (r_assign rfl) ?_
        refine wl_nil ?_
        refine sq_n ?_
        refine wc_ret ?_
        refine fin_ret [(.bool true)] ⟨rfl, trivial⟩ ?_
        exact ⟨vbool (by simp), hM.rel⟩

end Go.Proofs.Ytenkkffokomonaa
