/- Walks of functions of this program (printed by a program of ours, by the rules of the layer). No condition. -/
import Derived.Test.YtenkkffokomonaaWA
namespace Go.Proofs.Ytenkkffokomonaa
open Go.RowKit

theorem ct_laws_FnExactRowCount (w : World) (v_aT : Value) (aT : List Int) (a_aT : Arg w [v_aT] (dFs 1 fI aT)) : Ret Try.prog 4 [v_aT] w (fun u w' => u = .bool (true) ∧ Rel w w') := by
  refine enter Try.func4 rfl Try.ntmps4 (by kernel_rfl) rfl ?_
  have hM := St.init w
  have hM := hM.addA a_aT
  have hl_aT := Fs.le a_aT
  refine wc_seq ?_
  refine wc_region ?_
  refine wv rfl (r_assign rfl) ?_
  refine wl_nil ?_
  refine sq_n ?_
  refine wc_seq ?_
  refine wc_seq ?_
  refine wc_region ?_
  refine wv rfl (r_move rfl) ?_
  refine wv rfl (r_lenF Try.underlying29 rfl (hM.arg (.head _))) ?_
  refine wv rfl (r_gtr rfl rfl) ?_
  refine wl_nil ?_
  refine sq_n ?_
  refine wc_cond rfl (fun hc1 => ?_) (fun hc1 => ?_)
  · skip
    have hc1 := of_decide_eq_true hc1
    refine wc_seq ?_
    refine wc_region ?_
    refine wv rfl (r_assign rfl) ?_
    refine wl_nil ?_
    refine sq_n ?_
    refine wc_ret ?_
    refine sq_ret ?_
    refine fin_ret [(.bool true)] ⟨rfl, trivial⟩ ?_
    exact ⟨vbool (by simp), hM.rel⟩
  · skip
    have hc1 := of_decide_eq_false hc1
    refine wc_skip ?_
    refine sq_n ?_
    refine wc_seq ?_
    refine wc_region ?_
    refine wv rfl (r_move rfl) ?_
    refine w_call rfl rfl (ct_laws_toIntS _ _ aT (hM.arg (.head _)) (by omega)) ?_
    rintro v3 w2 ⟨hR4, hov3⟩
    have hM := hM.gain hR4 hov3
    refine w_call rfl rfl (ct_spec_RowCount _ _ aT (Of.arg (hM.at' (.head _)) (fun _ => rfl))) ?_
    rintro _ w5 ⟨rfl, hR6⟩
    have hM := hM.call hR6
    refine wv rfl (r_assign rfl) ?_
    refine wl_nil ?_
    refine sq_n ?_
    refine wc_seq ?_
    refine wc_region ?_
    refine wv rfl (r_move rfl) ?_
    refine w_call rfl rfl (ct_laws_toIntS _ _ aT (hM.arg (.head _)) (by omega)) ?_
    rintro v8 w7 ⟨hR9, hov8⟩
    have hM := hM.gain hR9 hov8
    refine wv rfl (r_assign rfl) ?_
    refine wl_nil ?_
    refine sq_n ?_
    refine wc_seq ?_
    refine wc_region ?_
    refine wv rfl (r_move rfl) ?_
    refine w_call rfl rfl (ct_impl_RowCount _ _ aT (Of.arg (hM.at' (.head _)) (fun _ => rfl))) ?_
    rintro _ w10 ⟨rfl, hR11⟩
    have hM := hM.call hR11
    refine wv rfl (r_assign rfl) ?_
    refine wl_nil ?_
    refine sq_n ?_
    refine wc_seq ?_
    refine wc_seq ?_
    refine wc_region ?_
    refine wv rfl (r_move rfl) ?_
    refine wv rfl (r_move rfl) ?_
    refine wv rfl (r_neq rfl rfl) ?_
    refine wl_nil ?_
    refine sq_n ?_
    refine wc_cond rfl (fun hc12 => ?_) (fun hc12 => ?_)
    · skip
      have hc12 := bnot_t hc12
      have hc12 := of_decide_eq_false hc12
      exact absurd hc12 (by first | omega | (intro hn; exact hn rfl) | (simp; done) | (simp; omega))
    · skip
      have hc12 := bnot_f hc12
      have hc12 := of_decide_eq_true hc12
      refine wc_skip ?_
      refine sq_n ?_
      refine wc_seq ?_
      refine wc_seq ?_
      refine wc_region ?_
      refine wv rfl (r_move rfl) ?_
      refine wv rfl (r_move rfl) ?_
      refine w_call rfl rfl (ct_laws_toIntS _ _ aT (hM.arg (.head _)) (by omega)) ?_
      rintro v14 w13 ⟨hR15, hov14⟩
      have hM := hM.gain hR15 hov14
      refine w_call rfl rfl (ct_laws_eqIntS _ _ aT (Of.arg (hM.at' (.tail _ (.head _))) (fun _ => rfl)) _ aT (Of.arg (hM.at' (.head _)) (fun _ => rfl))) ?_
      rintro _ w16 ⟨rfl, hR17⟩
      have hM := hM.call hR17
      refine wv rfl (r_not rfl) ?_
      refine wl_nil ?_
      refine sq_n ?_
      refine wc_cond rfl (fun hc18 => ?_) (fun hc18 => ?_)
      · skip
        have hc18 := bnot_t hc18
        have hc18 := of_decide_eq_false hc18
        exact absurd hc18 (by first | omega | (intro hn; exact hn rfl) | (simp; done) | (simp; omega))
      · skip
        have hc18 := bnot_f hc18
        have hc18 := of_decide_eq_true hc18
        refine wc_skip ?_
        refine sq_n ?_
        refine wc_seq ?_
        refine wc_region ?_
        refine wv rfl (r_assign rfl) ?_
        refine wl_nil ?_
        refine sq_n ?_
        refine wc_ret ?_
        refine fin_ret [(.bool true)] ⟨rfl, trivial⟩ ?_
        exact ⟨vbool (by simp), hM.rel⟩

theorem ct_laws_FnExactRows (w : World) (v_aT : Value) (aT : List Int) (a_aT : Arg w [v_aT] (dFs 1 fI aT)) : Ret Try.prog 5 [v_aT] w (fun u w' => u = .bool (true) ∧ Rel w w') := by
  refine enter Try.func5 rfl Try.ntmps5 (by kernel_rfl) rfl ?_
  have hM := St.init w
  have hM := hM.addA a_aT
  have hl_aT := Fs.le a_aT
  have hr := rows_len_le aT
  refine wc_seq ?_
  refine wc_region ?_
  refine wv rfl (r_assign rfl) ?_
  refine wl_nil ?_
  refine sq_n ?_
  refine wc_seq ?_
  refine wc_seq ?_
  refine wc_region ?_
  refine wv rfl (r_move rfl) ?_
  refine wv rfl (r_lenF Try.underlying29 rfl (hM.arg (.head _))) ?_
  refine wv rfl (r_gtr rfl rfl) ?_
  refine wl_nil ?_
  refine sq_n ?_
  refine wc_cond rfl (fun hc1 => ?_) (fun hc1 => ?_)
  · skip
    have hc1 := of_decide_eq_true hc1
    refine wc_seq ?_
    refine wc_region ?_
    refine wv rfl (r_assign rfl) ?_
    refine wl_nil ?_
    refine sq_n ?_
    refine wc_ret ?_
    refine sq_ret ?_
    refine fin_ret [(.bool true)] ⟨rfl, trivial⟩ ?_
    exact ⟨vbool (by simp), hM.rel⟩
  · skip
    have hc1 := of_decide_eq_false hc1
    refine wc_skip ?_
    refine sq_n ?_
    refine wc_seq ?_
    refine wc_region ?_
    refine wv rfl (r_move rfl) ?_
    refine w_call rfl rfl (ct_laws_toIntS _ _ aT (hM.arg (.head _)) (by omega)) ?_
    rintro v3 w2 ⟨hR4, hov3⟩
    have hM := hM.gain hR4 hov3
    refine w_call rfl rfl (ct_spec_Rows _ _ aT (Of.arg (hM.at' (.head _)) (fun _ => rfl))) ?_
    rintro v6 w5 ⟨hR7, hov6⟩
    have hM := hM.gain hR7 hov6
    refine wv rfl (r_assign rfl) ?_
    refine wl_nil ?_
    refine sq_n ?_
    refine wc_seq ?_
    refine wc_region ?_
    refine wv rfl (r_move rfl) ?_
    refine w_call rfl rfl (ct_laws_toIntS _ _ aT (hM.arg (.head _)) (by omega)) ?_
    rintro v9 w8 ⟨hR10, hov9⟩
    have hM := hM.gain hR10 hov9
    refine wv rfl (r_assign rfl) ?_
    refine wl_nil ?_
    refine sq_n ?_
    refine wc_seq ?_
    refine wc_region ?_
    refine wv rfl (r_move rfl) ?_
    refine w_call rfl rfl (ct_impl_Rows _ _ aT (Of.arg (hM.at' (.head _)) (fun _ => rfl))) ?_
    rintro v12 w11 ⟨hR13, hov12⟩
    have hM := hM.gain hR13 hov12
    refine wv rfl (r_assign rfl) ?_
    refine wl_nil ?_
    refine sq_n ?_
    refine wc_seq ?_
    refine wc_seq ?_
    refine wc_region ?_
    refine wv rfl (r_move rfl) ?_
    refine wv rfl (r_move rfl) ?_
    refine w_call rfl rfl (ct_laws_eqIntS _ _ (rows aT) (Of.arg (hM.at' (.head _)) (fun _ => rfl)) _ (rows aT) (Of.arg (hM.at' (.tail _ (.tail _ (.head _)))) (fun _ => rfl))) ?_
    rintro _ w14 ⟨rfl, hR15⟩
    have hM := hM.call hR15
    refine wv rfl (r_not rfl) ?_
    refine wl_nil ?_
    refine sq_n ?_
    refine wc_cond rfl (fun hc16 => ?_) (fun hc16 => ?_)
    · skip
      have hc16 := bnot_t hc16
      have hc16 := of_decide_eq_false hc16
      exact absurd hc16 (by first | omega | (intro hn; exact hn rfl) | (simp; done) | (simp; omega))
    · skip
      have hc16 := bnot_f hc16
      have hc16 := of_decide_eq_true hc16
      refine wc_skip ?_
      refine sq_n ?_
      refine wc_seq ?_
      refine wc_seq ?_
      refine wc_region ?_
      refine wv rfl (r_move rfl) ?_
      refine wv rfl (r_move rfl) ?_
      refine w_call rfl rfl (ct_laws_toIntS _ _ aT (hM.arg (.head _)) (by omega)) ?_
      rintro v18 w17 ⟨hR19, hov18⟩
      have hM := hM.gain hR19 hov18
      refine w_call rfl rfl (ct_laws_eqIntS _ _ aT (Of.arg (hM.at' (.tail _ (.tail _ (.head _)))) (fun _ => rfl)) _ aT (Of.arg (hM.at' (.head _)) (fun _ => rfl))) ?_
      rintro _ w20 ⟨rfl, hR21⟩
      have hM := hM.call hR21
      refine wv rfl (r_not rfl) ?_
      refine wl_nil ?_
      refine sq_n ?_
      refine wc_cond rfl (fun hc22 => ?_) (fun hc22 => ?_)
      · skip
        have hc22 := bnot_t hc22
        have hc22 := of_decide_eq_false hc22
        exact absurd hc22 (by first | omega | (intro hn; exact hn rfl) | (simp; done) | (simp; omega))
      · skip
        have hc22 := bnot_f hc22
        have hc22 := of_decide_eq_true hc22
        refine wc_skip ?_
        refine sq_n ?_
        refine wc_seq ?_
        refine wc_region ?_
        refine wv rfl (r_assign rfl) ?_
        refine wl_nil ?_
        refine sq_n ?_
        refine wc_seq ?_
        refine wc_region ?_
        refine wv rfl (r_move rfl) ?_
        refine wv rfl (r_move rfl) ?_
        refine w_call rfl rfl (ct_laws_markIntS _ _ aT (hM.at' (.tail _ (.tail _ (.head _)))) (1 : Int) (by omega)) ?_
        rintro _ w23 ⟨rfl, hX24, ho25⟩
        have hM := hM.roll
        have hM := hM.lentF hX24 ho25
        have hml := marked_len aT 1 aT.length (Nat.le_refl _)
        refine wv rfl (r_assign rfl) ?_
        refine wl_nil ?_
        refine sq_n ?_
        refine wc_seq ?_
        refine wc_seq ?_
        refine wc_region ?_
        refine wv rfl (r_move rfl) ?_
        refine wv rfl (r_lss rfl rfl) ?_
        refine wv rfl (r_move rfl) ?_
        refine wl_mid 5 (fun _ : Unit => [(39, (.bool ((decide ((1 + (aT.length : Int)) < 0)) || (!(decide ((rows aT) = (rows aT))))))), (0, v_aT), (3, v6), (5, v12)]) (fun _ w' => St (b0 w) [oF v9 3 1 fI (marked aT 1 aT.length), oF v18 3 1 fI aT, oF v12 3 1 fI (rows aT), oF v6 3 1 fI (rows aT), oF v3 3 1 fI aT] [([v_aT], dFs 1 fI aT)] w') ?_ ?_
        · rcases Bool.eq_false_or_eq_true (decide ((1 + (aT.length : Int)) < 0)) with hg26 | hg26
          · skip
            have hg26p := of_decide_eq_true hg26
            refine gs rfl (isB_no hg26) rfl ?_
            refine gs rfl (isB_no hg26) rfl ?_
            refine gs rfl (isB_no hg26) rfl ?_
            refine gs rfl (isB_no hg26) rfl ?_
            refine wv rfl (p_t rfl hg26 rfl) ?_
            exact mid_nil () ⟨bcongr (or_t hg26), rfl, rfl, rfl, trivial⟩ hM
          · skip
            have hg26p := of_decide_eq_false hg26
            refine gv rfl hg26 rfl (r_move rfl) ?_
            refine gv rfl hg26 rfl (r_move rfl) ?_
            refine gc rfl hg26 rfl rfl (ct_laws_eqIntS _ _ (rows aT) (Of.arg (hM.at' (.tail _ (.tail _ (.head _)))) (fun _ => rfl)) _ (rows aT) (Of.arg (hM.at' (.tail _ (.tail _ (.tail _ (.head _))))) (fun _ => rfl))) ?_
            rintro _ w27 ⟨rfl, hR28⟩
            have hM := hM.call hR28
            refine gv rfl hg26 rfl (r_not rfl) ?_
            refine wv rfl (p_f rfl hg26 rfl) ?_
            exact mid_nil () ⟨bcongr (or_f hg26), rfl, rfl, rfl, trivial⟩ hM
        rintro _ w29 hM
        refine wl_nil ?_
        refine sq_n ?_
        refine wc_cond rfl (fun hc30 => ?_) (fun hc30 => ?_)
        · skip
          exact absurd hc30 (by first | omega | (intro hn; exact hn rfl) | (simp; done) | (simp; omega))
        · skip
          obtain ⟨hc30a, hc30b⟩ := (Bool.or_eq_false_iff).1 hc30
          have hc30a := of_decide_eq_false hc30a
          have hc30b := bnot_f hc30b
          have hc30b := of_decide_eq_true hc30b
          refine wc_skip ?_
          refine sq_n ?_
          refine wc_seq ?_
          refine wc_region ?_
          refine wv rfl (r_assign rfl) ?_
          refine wl_nil ?_
          refine sq_n ?_
          refine wc_seq ?_
          refine wc_region ?_
          refine wv rfl (r_move rfl) ?_
          refine wv rfl (r_move rfl) ?_
          refine w_call rfl rfl (ct_laws_markIntS _ _ (rows aT) (hM.at' (.tail _ (.tail _ (.head _)))) (1 : Int) (by omega)) ?_
          rintro _ w31 ⟨rfl, hX32, ho33⟩
          have hM := hM.roll
          have hM := hM.lentF hX32 ho33
          have hml := marked_len (rows aT) 1 (rows aT).length (Nat.le_refl _)
          refine wv rfl (r_assign rfl) ?_
          refine wl_nil ?_
          refine sq_n ?_
          refine wc_seq ?_
          refine wc_region ?_
          refine wv rfl (r_assign rfl) ?_
          refine wl_nil ?_
          refine sq_n ?_
          refine wc_seq ?_
          refine wc_region ?_
          refine wv rfl (r_move rfl) ?_
          refine wv rfl (r_move rfl) ?_
          refine w_call rfl rfl (ct_laws_heldIntS _ _ (marked (rows aT) 1 (rows aT).length) (Of.arg (hM.at' (.head _)) (fun _ => rfl)) (1 : Int) (by omega)) ?_
          rintro _ w34 ⟨rfl, hR35⟩
          have hM := hM.call hR35
          rw [held_marked]
          refine wv rfl (r_assign rfl) ?_
          refine wl_nil ?_
          refine sq_n ?_
          refine wc_seq ?_
          refine wc_seq ?_
          refine wc_region ?_
          refine wv rfl (r_move rfl) ?_
          refine wv rfl (r_lss rfl rfl) ?_
          refine wl_nil ?_
          refine sq_n ?_
          refine wc_cond rfl (fun hc36 => ?_) (fun hc36 => ?_)
          · skip
            have hc36 := of_decide_eq_true hc36
            exact absurd hc36 (by first | omega | (intro hn; exact hn rfl) | (simp; done) | (simp; omega))
          · skip
            have hc36 := of_decide_eq_false hc36
            refine wc_skip ?_
            refine sq_n ?_
            refine wc_seq ?_
            refine wc_seq ?_
            refine wc_region ?_
            refine wv rfl (r_move rfl) ?_
            refine wv rfl (r_move rfl) ?_
            refine wv rfl (r_neq rfl rfl) ?_
            refine wl_nil ?_
            refine sq_n ?_
            refine wc_cond rfl (fun hc37 => ?_) (fun hc37 => ?_)
            · skip
              have hc37 := bnot_t hc37
              have hc37 := of_decide_eq_false hc37
              exact absurd hc37 (by first | omega | (intro hn; exact hn rfl) | (simp; done) | (simp; omega))
            · skip
              have hc37 := bnot_f hc37
              have hc37 := of_decide_eq_true hc37
              refine wc_skip ?_
              refine sq_n ?_
              refine wc_seq ?_
              refine wc_region ?_
              refine wv rfl (r_move rfl) ?_
              refine w_call rfl rfl (ct_laws_toIntS _ _ aT (hM.arg (.head _)) (by omega)) ?_
              rintro v39 w38 ⟨hR40, hov39⟩
              have hM := hM.gain hR40 hov39
              refine w_call rfl rfl (ct_impl_Rows _ _ aT (Of.arg (hM.at' (.head _)) (fun _ => rfl))) ?_
              rintro v42 w41 ⟨hR43, hov42⟩
              have hM := hM.gain hR43 hov42
              refine wv rfl (r_assign rfl) ?_
              refine wl_nil ?_
              refine sq_n ?_
              refine wc_seq ?_
              refine wc_seq ?_
              refine wc_region ?_
              refine wv rfl (r_move rfl) ?_
              refine wv rfl (r_move rfl) ?_
              refine w_call rfl rfl (ct_laws_eqIntS _ _ (rows aT) (Of.arg (hM.at' (.head _)) (fun _ => rfl)) _ (rows aT) (Of.arg (hM.at' (.tail _ (.tail _ (.tail _ (.tail _ (.tail _ (.head _))))))) (fun _ => rfl))) ?_
              rintro _ w44 ⟨rfl, hR45⟩
              have hM := hM.call hR45
              refine wv rfl (r_not rfl) ?_
              refine wl_nil ?_
              refine sq_n ?_
              refine wc_cond rfl (fun hc46 => ?_) (fun hc46 => ?_)
              · skip
                have hc46 := bnot_t hc46
                have hc46 := of_decide_eq_false hc46
                exact absurd hc46 (by first | omega | (intro hn; exact hn rfl) | (simp; done) | (simp; omega))
              · skip
                have hc46 := bnot_f hc46
                have hc46 := of_decide_eq_true hc46
                refine wc_skip ?_
                refine sq_n ?_
                refine wc_seq ?_
                refine wc_region ?_
                refine wv rfl (r_assign rfl) ?_
                refine wl_nil ?_
                refine sq_n ?_
                refine wc_seq ?_
                refine wc_region ?_
                refine wv rfl (r_move rfl) ?_
                refine wv rfl (r_move rfl) ?_
                refine w_call rfl rfl (ct_laws_heldIntS _ _ (marked (rows aT) 1 (rows aT).length) (Of.arg (hM.at' (.tail _ (.tail _ (.head _)))) (fun _ => rfl)) (1 : Int) (by omega)) ?_
                rintro _ w47 ⟨rfl, hR48⟩
                have hM := hM.call hR48
                rw [held_marked]
                refine wv rfl (r_assign rfl) ?_
                refine wl_nil ?_
                refine sq_n ?_
                refine wc_seq ?_
                refine wc_seq ?_
                refine wc_region ?_
                refine wv rfl (r_move rfl) ?_
                refine wv rfl (r_lss rfl rfl) ?_
                refine wl_nil ?_
                refine sq_n ?_
                refine wc_cond rfl (fun hc49 => ?_) (fun hc49 => ?_)
                · skip
                  have hc49 := of_decide_eq_true hc49
                  exact absurd hc49 (by first | omega | (intro hn; exact hn rfl) | (simp; done) | (simp; omega))
                · skip
                  have hc49 := of_decide_eq_false hc49
                  refine wc_skip ?_
                  refine sq_n ?_
                  refine wc_seq ?_
                  refine wc_seq ?_
                  refine wc_region ?_
                  refine wv rfl (r_move rfl) ?_
                  refine wv rfl (r_move rfl) ?_
                  refine wv rfl (r_neq rfl rfl) ?_
                  refine wl_nil ?_
                  refine sq_n ?_
                  refine wc_cond rfl (fun hc50 => ?_) (fun hc50 => ?_)
                  · skip
                    have hc50 := bnot_t hc50
                    have hc50 := of_decide_eq_false hc50
                    exact absurd hc50 (by first | omega | (intro hn; exact hn rfl) | (simp; done) | (simp; omega))
                  · skip
                    have hc50 := bnot_f hc50
                    have hc50 := of_decide_eq_true hc50
                    refine wc_skip ?_
                    refine sq_n ?_
                    refine wc_seq ?_
                    refine wc_region ?_
                    refine wv rfl (r_assign rfl) ?_
                    refine wl_nil ?_
                    refine sq_n ?_
                    refine wc_ret ?_
                    refine fin_ret [(.bool true)] ⟨rfl, trivial⟩ ?_
                    exact ⟨vbool (by simp), hM.rel⟩

end Go.Proofs.Ytenkkffokomonaa
