/- Walks of functions of this program (printed by a program of ours, by the rules of the layer). No condition. -/
import Derived.Test.YtenkkffokomonaaWC
namespace Go.Proofs.Ytenkkffokomonaa
open Go.RowKit

theorem ct_laws_FnExactRowCount (w : World) (v_aT : Value) (aT : List Int) (a_aT : Arg w [v_aT] (dFs 1 fI aT)) : Ret Try.prog 4 [v_aT] w (fun u w' => u = .bool (true) ∧ Rel w w') := by
  refine enter Try.func4 rfl Try.ntmps4 (by kernel_rfl) rfl ?_
  have hM := St.init w
  have hM := hM.addA a_aT
  have hl_aT := Fs.le a_aT
  refine wc_seq ?_
  refine wc_region ?_
  refine wv rfl (r_assign rfl) ?_
  refine wl_nil ?_
  refine sq_n ?_
  refine wc_seq ?_
  refine wc_seq ?_
  refine wc_region ?_
  refine wv rfl (r_move rfl) ?_
  refine wv rfl (r_lenF Try.underlying29 rfl (hM.arg (.head _))) ?_
  refine wv rfl (r_gtr rfl rfl) ?_
  refine wl_nil ?_
  refine sq_n ?_
  refine wc_cond rfl (fun hc1 => ?_) (fun hc1 => ?_)
  · skip
    have hc1 := of_decide_eq_true hc1
    refine wc_seq ?_
    refine wc_region ?_
    refine wv rfl (r_assign rfl) ?_
    refine wl_nil ?_
    refine sq_n ?_
    refine wc_ret ?_
    refine sq_ret ?_
    refine fin_ret [(.bool true)] ⟨rfl, trivial⟩ ?_
    exact ⟨vbool (by simp), hM.rel⟩
  · skip
    have hc1 := of_decide_eq_false hc1
    refine wc_skip ?_
    refine sq_n ?_
    refine wc_seq ?_
    refine wc_region ?_
    refine wv rfl (r_move rfl) ?_
    refine w_call rfl rfl (ct_laws_toIntS _ _ aT (hM.arg (.head _)) (by omega)) ?_
    rintro v3 w2 ⟨hR4, hov3⟩
    have hM := hM.gain hR4 hov3
    refine w_call rfl rfl (ct_spec_RowCount _ _ aT (Of.arg (hM.at' (.head _)) (fun _ => rfl))) ?_
    rintro _ w5 ⟨rfl, hR6⟩
    have hM := hM.call hR6
    refine wv rfl (r_assign rfl) ?_
    refine wl_nil ?_
    refine sq_n ?_
    refine wc_seq ?_
    refine wc_region ?_
    refine wv rfl (r_move rfl) ?_
    refine w_call rfl rfl (ct_laws_toIntS _ _ aT (hM.arg (.head _)) (by omega)) ?_
    rintro v8 w7 ⟨hR9, hov8⟩
    have hM := hM.gain hR9 hov8
    refine wv rfl (r_assign rfl) ?_
    refine wl_nil ?_
    refine sq_n ?_
    refine wc_seq ?_
    refine wc_region ?_
    refine wv rfl (r_move rfl) ?_
    refine w_call rfl rfl (ct_impl_RowCount _ _ aT (Of.arg (hM.at' (.head _)) (fun _ => rfl))) ?_
    rintro _ w10 ⟨rfl, hR11⟩
    have hM := hM.call hR11
    refine wv rfl (r_assign rfl) ?_
    refine wl_nil ?_
    refine sq_n ?_
    refine wc_seq ?_
    refine wc_seq ?_
    refine wc_region ?_
    refine wv rfl (r_move rfl) ?_
    refine wv rfl (r_move rfl) ?_
    refine wv rfl (r_neq rfl rfl) ?_
    refine wl_nil ?_
    refine sq_n ?_
    refine wc_cond rfl (fun hc12 => ?_) (fun hc12 => ?_)
    · skip
      have hc12 := bnot_t hc12
      have hc12 := of_decide_eq_false hc12
      exact absurd hc12 (by first | omega | (intro hn; exact hn rfl) | (simp; done) | (simp; omega))
    · skip
      have hc12 := bnot_f hc12
      have hc12 := of_decide_eq_true hc12
      refine wc_skip ?_
      refine sq_n ?_
      refine wc_seq ?_
      refine wc_seq ?_
      refine wc_region ?_
      refine wv rfl (r_move rfl) ?_
      refine wv rfl (r_move rfl) ?_
      refine w_call rfl rfl (ct_laws_toIntS _ _ aT (hM.arg (.head _)) (by omega)) ?_
      rintro v14 w13 ⟨hR15, hov14⟩
      have hM := hM.gain hR15 hov14
      refine w_call rfl rfl (ct_laws_eqIntS _ _ aT (Of.arg (hM.at' (.tail _ (.head _))) (fun _ => rfl)) _ aT (Of.arg (hM.at' (.head _)) (fun _ => rfl))) ?_
      rintro _ w16 ⟨rfl, hR17⟩
      have hM := hM.call hR17
      refine wv rfl (r_not rfl) ?_
      refine wl_nil ?_
      refine sq_n ?_
      refine wc_cond rfl (fun hc18 => ?_) (fun hc18 => ?_)
      · skip
        have hc18 := bnot_t hc18
        have hc18 := of_decide_eq_false hc18
        exact absurd hc18 (by first | omega | (intro hn; exact hn rfl) | (simp; done) | (simp; omega))
      · skip
        have hc18 := bnot_f hc18
        have hc18 := of_decide_eq_true hc18
        refine wc_skip ?_
        refine sq_n ?_
        refine wc_seq ?_
        refine wc_region ?_
        refine wv rfl (r_assign rfl) ?_
        refine wl_nil ?_
        refine sq_n ?_
        refine wc_ret ?_
        refine fin_ret [(.bool true)] ⟨rfl, trivial⟩ ?_
        exact ⟨vbool (by simp), hM.rel⟩

theorem ct_laws_FnExactRows (w : World) (v_aT : Value) (aT : List Int) (a_aT : Arg w [v_aT] (dFs 1 fI aT)) : Ret Try.prog 5 [v_aT] w (fun u w' => u = .bool (true) ∧ Rel w w') := by
  refine enter Try.func5 rfl Try.ntmps5 (by kernel_rfl) rfl ?_
  have hM := St.init w
  have hM := hM.addA a_aT
  have hl_aT := Fs.le a_aT
  have hr := rows_len_le aT
  refine wc_seq ?_
  refine wc_region ?_
  refine wv rfl (r_assign rfl) ?_
  refine wl_nil ?_
  refine sq_n ?_
  refine wc_seq ?_
  refine wc_seq ?_
  refine wc_region ?_
  refine wv rfl (r_move rfl) ?_
  refine wv rfl (r_lenF Try.underlying29 rfl (hM.arg (.head _))) ?_
  refine wv rfl (r_gtr rfl rfl) ?_
  refine wl_nil ?_
  refine sq_n ?_
  refine wc_cond rfl (fun hc1 => ?_) (fun hc1 => ?_)
  · skip
    have hc1 := of_decide_eq_true hc1
    refine wc_seq ?_
    refine wc_region ?_
    refine wv rfl (r_assign rfl) ?_
    refine wl_nil ?_
    refine sq_n ?_
    refine wc_ret ?_
    refine sq_ret ?_
    refine fin_ret [(.bool true)] ⟨rfl, trivial⟩ ?_
    exact ⟨vbool (by simp), hM.rel⟩
  · skip
    have hc1 := of_decide_eq_false hc1
    refine wc_skip ?_
    refine sq_n ?_
    refine wc_seq ?_
    refine wc_region ?_
    refine wv rfl (r_move rfl) ?_
    refine w_call rfl rfl (ct_laws_toIntS _ _ aT (hM.arg (.head _)) (by omega)) ?_
    rintro v3 w2 ⟨hR4, hov3⟩
    have hM := hM.gain hR4 hov3
    refine w_call rfl rfl (ct_spec_Rows _ _ aT (Of.arg (hM.at' (.head _)) (fun _ => rfl))) ?_
    rintro v6 w5 ⟨hR7, hov6⟩
    have hM := hM.gain hR7 hov6
    refine wv rfl (r_assign rfl) ?_
    refine wl_nil ?_
    refine sq_n ?_
    refine wc_seq ?_
    refine wc_region ?_
    refine wv rfl (r_move rfl) ?_
    refine w_call rfl rfl (ct_laws_toIntS _ _ aT (hM.arg (.head _)) (by omega)) ?_
    rintro v9 w8 ⟨hR10, hov9⟩
    have hM := hM.gain hR10 hov9
    refine wv rfl (r_assign rfl) ?_
    refine wl_nil ?_
    refine sq_n ?_
    refine wc_seq ?_
    refine wc_region ?_
    refine wv rfl (r_move rfl) ?_
    refine w_call rfl rfl (ct_impl_Rows _ _ aT (Of.arg (hM.at' (.head _)) (fun _ => rfl))) ?_
    rintro v12 w11 ⟨hR13, hov12⟩
    have hM := hM.gain hR13 hov12
    refine wv rfl (r_assign rfl) ?_
    refine wl_nil ?_
    refine sq_n ?_
    refine wc_seq ?_
    refine wc_seq ?_
    refine wc_region ?_
    refine wv rfl (r_move rfl) ?_
    refine wv rfl (r_move rfl) ?_
    refine w_call rfl rfl (ct_laws_eqIntS _ _ (rows aT) (Of.arg (hM.at' (.head _)) (fun _ => rfl)) _ (rows aT) (Of.arg (hM.at' (.tail _ (.tail _ (.head _)))) (fun _ => rfl))) ?_
    rintro _ w14 ⟨rfl, hR15⟩
    have hM := hM.call hR15
    refine wv rfl (r_not rfl) ?_
    refine wl_nil ?_
    refine sq_n ?_
    refine wc_cond rfl (fun hc16 => ?_) (fun hc16 => ?_)
    · skip
      have hc16 := bnot_t hc16
      have hc16 := of_decide_eq_false hc16
      exact absurd hc16 (by first | omega | (intro hn; exact hn rfl) | (simp; done) | (simp; omega))
    · skip
      have hc16 := bnot_f hc16
      have hc16 := of_decide_eq_true hc16
      refine wc_skip ?_
      refine sq_n ?_
      refine wc_seq ?_
      refine wc_seq ?_
      refine wc_region ?_
      refine wv rfl (r_move rfl) ?_
      refine wv rfl (r_move rfl) ?_
      refine w_call rfl rfl (ct_laws_toIntS _ _ aT (hM.arg (.head _)) (by omega)) ?_
      rintro v18 w17 ⟨hR19, hov18⟩
      have hM := hM.gain hR19 hov18
      refine w_call rfl rfl (ct_laws_eqIntS _ _ aT (Of.arg (hM.at' (.tail _ (.tail _ (.head _)))) (fun _ => rfl)) _ aT (Of.arg (hM.at' (.head _)) (fun _ => rfl))) ?_
      rintro _ w20 ⟨rfl, hR21⟩
      have hM := hM.call hR21
      refine wv rfl (r_not rfl) ?_
      refine wl_nil ?_
      refine sq_n ?_
      refine wc_cond rfl (fun hc22 => ?_) (fun hc22 => ?_)
      · skip
        have hc22 := bnot_t hc22
        have hc22 := of_decide_eq_false hc22
        exact absurd hc22 (by first | omega | (intro hn; exact hn rfl) | (simp; done) | (simp; omega))
      · skip
        have hc22 := bnot_f hc22
        have hc22 := of_decide_eq_true hc22
        refine wc_skip ?_
        refine sq_n ?_
        refine wc_seq ?_
        refine wc_region ?_
        refine wv rfl (r_assign rfl) ?_
        refine wl_nil ?_
        refine sq_n ?_
        refine wc_seq ?_
        refine wc_region ?_
        refine wv rfl (r_move rfl) ?_
        refine wv rfl (r_move rfl) ?_
        refine w_call rfl rfl (ct_laws_markIntS _ _ aT (hM.at' (.tail _ (.tail _ (.head _)))) (1 : Int) (by omega)) ?_
        rintro _ w23 ⟨rfl, hX24, ho25⟩
        have hM := hM.roll
        have hM := hM.lentF hX24 ho25
        have hml := marked_len aT 1 aT.length (Nat.le_refl _)
        refine wv rfl (r_assign rfl) ?_
        refine wl_nil ?_
        refine sq_n ?_
        refine wc_seq ?_
        refine wc_seq ?_
        refine wc_region ?_
        refine wv rfl (r_move rfl) ?_
        refine wv rfl (r_lss rfl rfl) ?_
        refine wv rfl (r_move rfl) ?_
        refine wl_mid 5 (fun _ : Unit => [(39, (.bool ((decide ((1 + (aT.length : Int)) < 0)) || (!(decide ((rows aT) = (rows aT))))))), (0, v_aT), (3, v6), (5, v12)]) (fun _ w' => St (b0 w) [oF v9 3 1 fI (marked aT 1 aT.length), oF v18 3 1 fI aT, oF v12 3 1 fI (rows aT), oF v6 3 1 fI (rows aT), oF v3 3 1 fI aT] [([v_aT], dFs 1 fI aT)] w') ?_ ?_
        · rcases Bool.eq_false_or_eq_true (decide ((1 + (aT.length : Int)) < 0)) with hg26 | hg26
          · skip
            have hg26p := of_decide_eq_true hg26
            refine gs rfl (isB_no hg26) rfl ?_
            refine gs rfl (isB_no hg26) rfl ?_
            refine gs rfl (isB_no hg26) rfl ?_
            refine gs rfl (isB_no hg26) rfl ?_
            refine wv rfl (p_t rfl hg26 rfl) ?_
            exact mid_nil () ⟨bcongr (or_t hg26), rfl, rfl, rfl, trivial⟩ hM
          · skip
            have hg26p := of_decide_eq_false hg26
            refine gv rfl hg26 rfl (r_move rfl) ?_
            refine gv rfl hg26 rfl (r_move rfl) ?_
            refine gc rfl hg26 rfl rfl (ct_laws_eqIntS _ _ (rows aT) (Of.arg (hM.at' (.tail _ (.tail _ (.head _)))) (fun _ => rfl)) _ (rows aT) (Of.arg (hM.at' (.tail _ (.tail _ (.tail _ (.head _))))) (fun _ => rfl))) ?_
            rintro _ w27 ⟨rfl, hR28⟩
            have hM := hM.call hR28
            refine gv rfl hg26 rfl (r_not rfl) ?_
            refine wv rfl (p_f rfl hg26 rfl) ?_
            exact mid_nil () ⟨bcongr (or_f hg26), rfl, rfl, rfl, trivial⟩ hM
        rintro _ w29 hM
        refine wl_nil ?_
        refine sq_n ?_
        refine wc_cond rfl (fun hc30 => ?_) (fun hc30 => ?_)
        · skip
          exact absurd hc30 (by first | omega | (intro hn; exact hn rfl) | (simp; done) | (simp; omega))
        · skip
          obtain ⟨hc30a, hc30b⟩ := (Bool.or_eq_false_iff).1 hc30
          have hc30a := of_decide_eq_false hc30a
          have hc30b := bnot_f hc30b
          have hc30b := of_decide_eq_true hc30b
          refine wc_skip ?_
          refine sq_n ?_
          refine wc_seq ?_
          refine wc_region ?_
          refine wv rfl (r_assign rfl) ?_
          refine wl_nil ?_
          refine sq_n ?_
          refine wc_seq ?_
          refine wc_region ?_
          refine wv rfl (r_move rfl) ?_
          refine wv rfl (r_move rfl) ?_
          refine w_call rfl rfl (ct_laws_markIntS _ _ (rows aT) (hM.at' (.tail _ (.tail _ (.head _)))) (1 : Int) (by omega)) ?_
          rintro _ w31 ⟨rfl, hX32, ho33⟩
          have hM := hM.roll
          have hM := hM.lentF hX32 ho33
          have hml := marked_len (rows aT) 1 (rows aT).length (Nat.le_refl _)
          refine wv rfl (r_assign rfl) ?_
          refine wl_nil ?_
          refine sq_n ?_
          refine wc_seq ?_
          refine wc_region ?_
          refine wv rfl (r_assign rfl) ?_
          refine wl_nil ?_
          refine sq_n ?_
          refine wc_seq ?_
          refine wc_region ?_
          refine wv rfl (r_move rfl) ?_
          refine wv rfl (r_move rfl) ?_
          refine w_call rfl rfl (ct_laws_heldIntS _ _ (marked (rows aT) 1 (rows aT).length) (Of.arg (hM.at' (.head _)) (fun _ => rfl)) (1 : Int) (by omega)) ?_
          rintro _ w34 ⟨rfl, hR35⟩
          have hM := hM.call hR35
          rw [held_marked]
          refine wv rfl (r_assign rfl) ?_
          refine wl_nil ?_
          refine sq_n ?_
          refine wc_seq ?_
          refine wc_seq ?_
          refine wc_region ?_
          refine wv rfl (r_move rfl) ?_
          refine wv rfl (r_lss rfl rfl) ?_
          refine wl_nil ?_
          refine sq_n ?_
          refine wc_cond rfl (fun hc36 => ?_) (fun hc36 => ?_)
          · skip
            have hc36 := of_decide_eq_true hc36
            exact absurd hc36 (by first | omega | (intro hn; exact hn rfl) | (simp; done) | (simp; omega))
          · skip
            have hc36 := of_decide_eq_false hc36
            refine wc_skip ?_
            refine sq_n ?_
            refine wc_seq ?_
            refine wc_seq ?_
            refine wc_region ?_
            refine wv rfl (r_move rfl) ?_
            refine wv rfl (r_move rfl) ?_
            refine wv rfl (r_neq rfl rfl) ?_
            refine wl_nil ?_
            refine sq_n ?_
            refine wc_cond rfl (fun hc37 => ?_) (fun hc37 => ?_)
            · skip
              have hc37 := bnot_t hc37
              have hc37 := of_decide_eq_false hc37
              exact absurd hc37 (by first | omega | (intro hn; exact hn rfl) | (simp; done) | (simp; omega))
            · skip
              have hc37 := bnot_f hc37
              have hc37 := of_decide_eq_true hc37
              refine wc_skip ?_
              refine sq_n ?_
              refine wc_seq ?_
              refine wc_region ?_
              refine wv rfl (r_move rfl) ?_
              refine w_call rfl rfl (ct_laws_toIntS _ _ aT (hM.arg (.head _)) (by omega)) ?_
              rintro v39 w38 ⟨hR40, hov39⟩
              have hM := hM.gain hR40 hov39
              refine w_call rfl rfl (ct_impl_Rows _ _ aT (Of.arg (hM.at' (.head _)) (fun _ => rfl))) ?_
              rintro v42 w41 ⟨hR43, hov42⟩
              have hM := hM.gain hR43 hov42
              refine wv rfl (r_assign rfl) ?_
              refine wl_nil ?_
              refine sq_n ?_
              refine wc_seq ?_
              refine wc_seq ?_
              refine wc_region ?_
              refine wv rfl (r_move rfl) ?_
              refine wv rfl (r_move rfl) ?_
              refine w_call rfl rfl (ct_laws_eqIntS _ _ (rows aT) (Of.arg (hM.at' (.head _)) (fun _ => rfl)) _ (rows aT) (Of.arg (hM.at' (.tail _ (.tail _ (.tail _ (.tail _ (.tail _ (.head _))))))) (fun _ => rfl))) ?_
              rintro _ w44 ⟨rfl, hR45⟩
              have hM := hM.call hR45
              refine wv rfl (r_not rfl) ?_
              refine wl_nil ?_
              refine sq_n ?_
              refine wc_cond rfl (fun hc46 => ?_) (fun hc46 => ?_)
              · skip
                have hc46 := bnot_t hc46
                have hc46 := of_decide_eq_false hc46
                exact absurd hc46 (by first | omega | (intro hn; exact hn rfl) | (simp; done) | (simp; omega))
              · skip
                have hc46 := bnot_f hc46
                have hc46 := of_decide_eq_true hc46
                refine wc_skip ?_
                refine sq_n ?_
                refine wc_seq ?_
                refine wc_region ?_
                refine wv rfl (r_assign rfl) ?_
                refine wl_nil ?_
                refine sq_n ?_
                refine wc_seq ?_
                refine wc_region ?_
                refine wv rfl (r_move rfl) ?_
                refine wv rfl (r_move rfl) ?_
                refine w_call rfl rfl (ct_laws_heldIntS _ _ (marked (rows aT) 1 (rows aT).length) (Of.arg (hM.at' (.tail _ (.tail _ (.head _)))) (fun _ => rfl)) (1 : Int) (by omega)) ?_
                rintro _ w47 ⟨rfl, hR48⟩
                have hM := hM.call hR48
                rw [held_marked]
                refine wv rfl (r_assign rfl) ?_
                refine wl_nil ?_
                refine sq_n ?_
                refine wc_seq ?_
                refine wc_seq ?_
                refine wc_region ?_
                refine wv rfl (r_move rfl) ?_
                refine wv rfl (r_lss rfl rfl) ?_
                refine wl_nil ?_
                refine sq_n ?_
                refine wc_cond rfl (fun hc49 => ?_) (fun hc49 => ?_)
                · skip
                  have hc49 := of_decide_eq_true hc49
                  exact absurd hc49 (by first | omega | (intro hn; exact hn rfl) | (simp; done) | (simp; omega))
                · skip
                  have hc49 := of_decide_eq_false hc49
                  refine wc_skip ?_
                  refine sq_n ?_
                  refine wc_seq ?_
                  refine wc_seq ?_
                  refine wc_region ?_
                  refine wv rfl (r_move rfl) ?_
                  refine wv rfl (r_move rfl) ?_
                  refine wv rfl (r_neq rfl rfl) ?_
                  refine wl_nil ?_
                  refine sq_n ?_
                  refine wc_cond rfl (fun hc50 => ?_) (fun hc50 => ?_)
                  · skip
                    have hc50 := bnot_t hc50
                    have hc50 := of_decide_eq_false hc50
                    exact absurd hc50 (by first | omega | (intro hn; exact hn rfl) | (simp; done) | (simp; omega))
                  · skip
                    have hc50 := bnot_f hc50
                    have hc50 := of_decide_eq_true hc50
                    refine wc_skip ?_
                    refine sq_n ?_
                    refine wc_seq ?_
                    refine wc_region ?_
                    refine wv rfl (r_assign rfl) ?_
                    refine wl_nil ?_
                    refine sq_n ?_
                    refine wc_ret ?_
                    refine fin_ret [(.bool true)] ⟨rfl, trivial⟩ ?_
                    exact ⟨vbool (by simp), hM.rel⟩

theorem ct_laws_FnExactRowOf (w : World) (v_aT : Value) (aT : List Int) (a_aT : Arg w [v_aT] (dFs 1 fI aT)) (aAt : Int) : Ret Try.prog 6 [v_aT, .int .i64 aAt] w (fun u w' => u = .bool (true) ∧ Rel w w') := by
  refine enter Try.func6 rfl Try.ntmps6 (by kernel_rfl) rfl ?_
  have hM := St.init w
  have hM := hM.addA a_aT
  have hl_aT := Fs.le a_aT
  refine wc_seq ?_
  refine wc_region ?_
  refine wv rfl (r_assign rfl) ?_
  refine wl_nil ?_
  refine sq_n ?_
  refine wc_seq ?_
  refine wc_seq ?_
  refine wc_region ?_
  refine wv rfl (r_move rfl) ?_
  refine wv rfl (r_lenF Try.underlying29 rfl (hM.arg (.head _))) ?_
  refine wv rfl (r_gtr rfl rfl) ?_
  refine wl_nil ?_
  refine sq_n ?_
  refine wc_cond rfl (fun hc1 => ?_) (fun hc1 => ?_)
  · skip
    have hc1 := of_decide_eq_true hc1
    refine wc_seq ?_
    refine wc_region ?_
    refine wv rfl (r_assign rfl) ?_
    refine wl_nil ?_
    refine sq_n ?_
    refine wc_ret ?_
    refine sq_ret ?_
    refine fin_ret [(.bool true)] ⟨rfl, trivial⟩ ?_
    exact ⟨vbool (by simp), hM.rel⟩
  · skip
    have hc1 := of_decide_eq_false hc1
    refine wc_skip ?_
    refine sq_n ?_
    refine wc_seq ?_
    refine wc_region ?_
    refine wv rfl (r_move rfl) ?_
    refine w_call rfl rfl (ct_laws_toIntS _ _ aT (hM.arg (.head _)) (by omega)) ?_
    rintro v3 w2 ⟨hR4, hov3⟩
    have hM := hM.gain hR4 hov3
    refine wv rfl (r_move rfl) ?_
    refine w_call rfl rfl (ct_spec_RowOf _ _ aT (Of.arg (hM.at' (.head _)) (fun _ => rfl)) aAt) ?_
    rintro _ w5 ⟨rfl, hR6⟩
    have hM := hM.call hR6
    refine wv rfl (r_move rfl) ?_
    refine wv rfl (r_extract rfl rfl) ?_
    refine wv rfl (r_extract rfl rfl) ?_
    refine wv rfl (r_extract rfl rfl) ?_
    refine wv rfl (r_assign rfl) ?_
    refine wv rfl (r_assign rfl) ?_
    refine wv rfl (r_assign rfl) ?_
    refine wl_nil ?_
    refine sq_n ?_
    refine wc_seq ?_
    refine wc_region ?_
    refine wv rfl (r_move rfl) ?_
    refine w_call rfl rfl (ct_laws_toIntS _ _ aT (hM.arg (.head _)) (by omega)) ?_
    rintro v8 w7 ⟨hR9, hov8⟩
    have hM := hM.gain hR9 hov8
    refine wv rfl (r_assign rfl) ?_
    refine wl_nil ?_
    refine sq_n ?_
    refine wc_seq ?_
    refine wc_region ?_
    refine wv rfl (r_move rfl) ?_
    refine wv rfl (r_move rfl) ?_
    refine w_call rfl rfl (ct_impl_RowOf _ _ aT (Of.arg (hM.at' (.head _)) (fun _ => rfl)) aAt) ?_
    rintro _ w10 ⟨rfl, hR11⟩
    have hM := hM.call hR11
    refine wv rfl (r_move rfl) ?_
    refine wv rfl (r_extract rfl rfl) ?_
    refine wv rfl (r_extract rfl rfl) ?_
    refine wv rfl (r_extract rfl rfl) ?_
    refine wv rfl (r_assign rfl) ?_
    refine wv rfl (r_assign rfl) ?_
    refine wv rfl (r_assign rfl) ?_
    refine wl_nil ?_
    refine sq_n ?_
    refine wc_seq ?_
    refine wc_seq ?_
    refine wc_region ?_
    refine wv rfl (r_move rfl) ?_
    refine wv rfl (r_move rfl) ?_
    refine wv rfl (r_neq rfl rfl) ?_
    refine wv rfl (r_move rfl) ?_
    refine wl_mid 4 (fun _ : Unit => [(39, (.bool ((!(decide (((rowOf aT aAt).1) = ((rowOf aT aAt).1)))) || (!(decide (((rowOf aT aAt).2.1) = ((rowOf aT aAt).2.1))))))), (0, v_aT), (7, (.bool ((rowOf aT aAt).2.2))), (8, v8), (11, (.bool ((rowOf aT aAt).2.2)))]) (fun _ w' => St (b0 w) [oF v8 3 1 fI aT, oF v3 3 1 fI aT] [([v_aT], dFs 1 fI aT)] w') ?_ ?_
    · rcases Bool.eq_false_or_eq_true (!(decide (((rowOf aT aAt).1) = ((rowOf aT aAt).1)))) with hg12 | hg12
      · skip
        refine gs rfl (isB_no hg12) rfl ?_
        refine gs rfl (isB_no hg12) rfl ?_
        refine gs rfl (isB_no hg12) rfl ?_
        refine wv rfl (p_t rfl hg12 rfl) ?_
        exact mid_nil () ⟨bcongr (or_t hg12), rfl, rfl, rfl, rfl, trivial⟩ hM
      · skip
        refine gv rfl hg12 rfl (r_move rfl) ?_
        refine gv rfl hg12 rfl (r_move rfl) ?_
        refine gv rfl hg12 rfl (r_neq rfl rfl) ?_
        refine wv rfl (p_f rfl hg12 rfl) ?_
        exact mid_nil () ⟨bcongr (or_f hg12), rfl, rfl, rfl, rfl, trivial⟩ hM
    rintro _ w13 hM
    refine wv rfl (r_move rfl) ?_
    refine wl_mid 4 (fun _ : Unit => [(44, (.bool (((!(decide (((rowOf aT aAt).1) = ((rowOf aT aAt).1)))) || (!(decide (((rowOf aT aAt).2.1) = ((rowOf aT aAt).2.1))))) || (!(((rowOf aT aAt).2.2) == ((rowOf aT aAt).2.2)))))), (0, v_aT), (8, v8)]) (fun _ w' => St (b0 w) [oF v8 3 1 fI aT, oF v3 3 1 fI aT] [([v_aT], dFs 1 fI aT)] w') ?_ ?_
    · rcases Bool.eq_false_or_eq_true ((!(decide (((rowOf aT aAt).1) = ((rowOf aT aAt).1)))) || (!(decide (((rowOf aT aAt).2.1) = ((rowOf aT aAt).2.1))))) with hg14 | hg14
      · skip
        refine gs rfl (isB_no hg14) rfl ?_
        refine gs rfl (isB_no hg14) rfl ?_
        refine gs rfl (isB_no hg14) rfl ?_
        refine wv rfl (p_t rfl hg14 rfl) ?_
        exact mid_nil () ⟨bcongr (or_t hg14), rfl, rfl, trivial⟩ hM
      · skip
        refine gv rfl hg14 rfl (r_move rfl) ?_
        refine gv rfl hg14 rfl (r_move rfl) ?_
        refine gv rfl hg14 rfl (r_neqb Try.underlying4 rfl rfl) ?_
        refine wv rfl (p_f rfl hg14 rfl) ?_
        exact mid_nil () ⟨bcongr (or_f hg14), rfl, rfl, trivial⟩ hM
    rintro _ w15 hM
    refine wl_nil ?_
    refine sq_n ?_
    refine wc_cond rfl (fun hc16 => ?_) (fun hc16 => ?_)
    · skip
      exact absurd hc16 (by first | omega | (intro hn; exact hn rfl) | (simp; done) | (simp; omega))
    · skip
      obtain ⟨hc16a, hc16b⟩ := (Bool.or_eq_false_iff).1 hc16
      obtain ⟨hc16aa, hc16ab⟩ := (Bool.or_eq_false_iff).1 hc16a
      have hc16aa := bnot_f hc16aa
      have hc16aa := of_decide_eq_true hc16aa
      have hc16ab := bnot_f hc16ab
      have hc16ab := of_decide_eq_true hc16ab
      refine wc_skip ?_
      refine sq_n ?_
      refine wc_seq ?_
      refine wc_seq ?_
      refine wc_region ?_
      refine wv rfl (r_move rfl) ?_
      refine wv rfl (r_move rfl) ?_
      refine w_call rfl rfl (ct_laws_toIntS _ _ aT (hM.arg (.head _)) (by omega)) ?_
      rintro v18 w17 ⟨hR19, hov18⟩
      have hM := hM.gain hR19 hov18
      refine w_call rfl rfl (ct_laws_eqIntS _ _ aT (Of.arg (hM.at' (.tail _ (.head _))) (fun _ => rfl)) _ aT (Of.arg (hM.at' (.head _)) (fun _ => rfl))) ?_
      rintro _ w20 ⟨rfl, hR21⟩
      have hM := hM.call hR21
      refine wv rfl (r_not rfl) ?_
      refine wl_nil ?_
      refine sq_n ?_
      refine wc_cond rfl (fun hc22 => ?_) (fun hc22 => ?_)
      · skip
        have hc22 := bnot_t hc22
        have hc22 := of_decide_eq_false hc22
        exact absurd hc22 (by first | omega | (intro hn; exact hn rfl) | (simp; done) | (simp; omega))
      · skip
        have hc22 := bnot_f hc22
        have hc22 := of_decide_eq_true hc22
        refine wc_skip ?_
        refine sq_n ?_
        refine wc_seq ?_
        refine wc_region ?_
        refine wv rfl (r_assign rfl) ?_
        refine wl_nil ?_
        refine sq_n ?_
        refine wc_ret ?_
        refine fin_ret [(.bool true)] ⟨rfl, trivial⟩ ?_
        exact ⟨vbool (by simp), hM.rel⟩

theorem ct_laws_FnExactPlaceOf (w : World) (v_aT : Value) (aT : List Int) (a_aT : Arg w [v_aT] (dFs 1 fI aT)) (aRow : Int) (aCol : Int) : Ret Try.prog 8 [v_aT, .int .i64 aRow, .int .i64 aCol] w (fun u w' => u = .bool (true) ∧ Rel w w') := by
  refine enter Try.func8 rfl Try.ntmps8 (by kernel_rfl) rfl ?_
  have hM := St.init w
  have hM := hM.addA a_aT
  have hl_aT := Fs.le a_aT
  refine wc_seq ?_
  refine wc_region ?_
  refine wv rfl (r_assign rfl) ?_
  refine wl_nil ?_
  refine sq_n ?_
  refine wc_seq ?_
  refine wc_seq ?_
  refine wc_region ?_
  refine wv rfl (r_move rfl) ?_
  refine wv rfl (r_lenF Try.underlying29 rfl (hM.arg (.head _))) ?_
  refine wv rfl (r_gtr rfl rfl) ?_
  refine wl_nil ?_
  refine sq_n ?_
  refine wc_cond rfl (fun hc1 => ?_) (fun hc1 => ?_)
  · skip
    have hc1 := of_decide_eq_true hc1
    refine wc_seq ?_
    refine wc_region ?_
    refine wv rfl (r_assign rfl) ?_
    refine wl_nil ?_
    refine sq_n ?_
    refine wc_ret ?_
    refine sq_ret ?_
    refine fin_ret [(.bool true)] ⟨rfl, trivial⟩ ?_
    exact ⟨vbool (by simp), hM.rel⟩
  · skip
    have hc1 := of_decide_eq_false hc1
    refine wc_skip ?_
    refine sq_n ?_
    refine wc_seq ?_
    refine wc_region ?_
    refine wv rfl (r_move rfl) ?_
    refine w_call rfl rfl (ct_laws_toIntS _ _ aT (hM.arg (.head _)) (by omega)) ?_
    rintro v3 w2 ⟨hR4, hov3⟩
    have hM := hM.gain hR4 hov3
    refine wv rfl (r_move rfl) ?_
    refine wv rfl (r_move rfl) ?_
    refine w_call rfl rfl (ct_spec_PlaceOf _ _ aT (Of.arg (hM.at' (.head _)) (fun _ => rfl)) aRow aCol) ?_
    rintro _ w5 ⟨rfl, hR6⟩
    have hM := hM.call hR6
    refine wv rfl (r_move rfl) ?_
    refine wv rfl (r_extract rfl rfl) ?_
    refine wv rfl (r_extract rfl rfl) ?_
    refine wv rfl (r_assign rfl) ?_
    refine wv rfl (r_assign rfl) ?_
    refine wl_nil ?_
    refine sq_n ?_
    refine wc_seq ?_
    refine wc_region ?_
    refine wv rfl (r_move rfl) ?_
    refine w_call rfl rfl (ct_laws_toIntS _ _ aT (hM.arg (.head _)) (by omega)) ?_
    rintro v8 w7 ⟨hR9, hov8⟩
    have hM := hM.gain hR9 hov8
    refine wv rfl (r_assign rfl) ?_
    refine wl_nil ?_
    refine sq_n ?_
    refine wc_seq ?_
    refine wc_region ?_
    refine wv rfl (r_move rfl) ?_
    refine wv rfl (r_move rfl) ?_
    refine wv rfl (r_move rfl) ?_
    refine w_call rfl rfl (ct_impl_PlaceOf _ _ aT (Of.arg (hM.at' (.head _)) (fun _ => rfl)) aRow aCol) ?_
    rintro _ w10 ⟨rfl, hR11⟩
    have hM := hM.call hR11
    refine wv rfl (r_move rfl) ?_
    refine wv rfl (r_extract rfl rfl) ?_
    refine wv rfl (r_extract rfl rfl) ?_
    refine wv rfl (r_assign rfl) ?_
    refine wv rfl (r_assign rfl) ?_
    refine wl_nil ?_
    refine sq_n ?_
    refine wc_seq ?_
    refine wc_seq ?_
    refine wc_region ?_
    refine wv rfl (r_move rfl) ?_
    refine wv rfl (r_move rfl) ?_
    refine wv rfl (r_neq rfl rfl) ?_
    refine wv rfl (r_move rfl) ?_
    refine wl_mid 4 (fun _ : Unit => [(39, (.bool ((!(decide (((placeOf aT aRow aCol).1) = ((placeOf aT aRow aCol).1)))) || (!(((placeOf aT aRow aCol).2) == ((placeOf aT aRow aCol).2)))))), (0, v_aT), (9, v8)]) (fun _ w' => St (b0 w) [oF v8 3 1 fI aT, oF v3 3 1 fI aT] [([v_aT], dFs 1 fI aT)] w') ?_ ?_
    · rcases Bool.eq_false_or_eq_true (!(decide (((placeOf aT aRow aCol).1) = ((placeOf aT aRow aCol).1)))) with hg12 | hg12
      · skip
        refine gs rfl (isB_no hg12) rfl ?_
        refine gs rfl (isB_no hg12) rfl ?_
        refine gs rfl (isB_no hg12) rfl ?_
        refine wv rfl (p_t rfl hg12 rfl) ?_
        exact mid_nil () ⟨bcongr (or_t hg12), rfl, rfl, trivial⟩ hM
      · skip
        refine gv rfl hg12 rfl (r_move rfl) ?_
        refine gv rfl hg12 rfl (r_move rfl) ?_
        refine gv rfl hg12 rfl (r_neqb Try.underlying4 rfl rfl) ?_
        refine wv rfl (p_f rfl hg12 rfl) ?_
        exact mid_nil () ⟨bcongr (or_f hg12), rfl, rfl, trivial⟩ hM
    rintro _ w13 hM
    refine wl_nil ?_
    refine sq_n ?_
    refine wc_cond rfl (fun hc14 => ?_) (fun hc14 => ?_)
    · skip
      exact absurd hc14 (by first | omega | (intro hn; exact hn rfl) | (simp; done) | (simp; omega))
    · skip
      obtain ⟨hc14a, hc14b⟩ := (Bool.or_eq_false_iff).1 hc14
      have hc14a := bnot_f hc14a
      have hc14a := of_decide_eq_true hc14a
      refine wc_skip ?_
      refine sq_n ?_
      refine wc_seq ?_
      refine wc_seq ?_
      refine wc_region ?_
      refine wv rfl (r_move rfl) ?_
      refine wv rfl (r_move rfl) ?_
      refine w_call rfl rfl (ct_laws_toIntS _ _ aT (hM.arg (.head _)) (by omega)) ?_
      rintro v16 w15 ⟨hR17, hov16⟩
      have hM := hM.gain hR17 hov16
      refine w_call rfl rfl (ct_laws_eqIntS _ _ aT (Of.arg (hM.at' (.tail _ (.head _))) (fun _ => rfl)) _ aT (Of.arg (hM.at' (.head _)) (fun _ => rfl))) ?_
      rintro _ w18 ⟨rfl, hR19⟩
      have hM := hM.call hR19
      refine wv rfl (r_not rfl) ?_
      refine wl_nil ?_
      refine sq_n ?_
      refine wc_cond rfl (fun hc20 => ?_) (fun hc20 => ?_)
      · skip
        have hc20 := bnot_t hc20
        have hc20 := of_decide_eq_false hc20
        exact absurd hc20 (by first | omega | (intro hn; exact hn rfl) | (simp; done) | (simp; omega))
      · skip
        have hc20 := bnot_f hc20
        have hc20 := of_decide_eq_true hc20
        refine wc_skip ?_
        refine sq_n ?_
        refine wc_seq ?_
        refine wc_region ?_
        refine wv rfl (r_assign rfl) ?_
        refine wl_nil ?_
        refine sq_n ?_
        refine wc_ret ?_
        refine fin_ret [(.bool true)] ⟨rfl, trivial⟩ ?_
        exact ⟨vbool (by simp), hM.rel⟩

theorem ct_laws_FnExactRowSigns (w : World) (v_aT : Value) (aT : List Int) (a_aT : Arg w [v_aT] (dFs 1 fI aT)) (aRow : Int) : Ret Try.prog 12 [v_aT, .int .i64 aRow] w (fun u w' => u = .bool (true) ∧ Rel w w') := by
  refine enter Try.func12 rfl Try.ntmps12 (by kernel_rfl) rfl ?_
  have hM := St.init w
  have hM := hM.addA a_aT
  have hl_aT := Fs.le a_aT
  have hr := rowSigns_len aT aRow
  refine wc_seq ?_
  refine wc_region ?_
  refine wv rfl (r_assign rfl) ?_
  refine wl_nil ?_
  refine sq_n ?_
  refine wc_seq ?_
  refine wc_seq ?_
  refine wc_region ?_
  refine wv rfl (r_move rfl) ?_
  refine wv rfl (r_lenF Try.underlying29 rfl (hM.arg (.head _))) ?_
  refine wv rfl (r_gtr rfl rfl) ?_
  refine wl_nil ?_
  refine sq_n ?_
  refine wc_cond rfl (fun hc1 => ?_) (fun hc1 => ?_)
  · skip
    have hc1 := of_decide_eq_true hc1
    refine wc_seq ?_
    refine wc_region ?_
    refine wv rfl (r_assign rfl) ?_
    refine wl_nil ?_
    refine sq_n ?_
    refine wc_ret ?_
    refine sq_ret ?_
    refine fin_ret [(.bool true)] ⟨rfl, trivial⟩ ?_
    exact ⟨vbool (by simp), hM.rel⟩
  · skip
    have hc1 := of_decide_eq_false hc1
    refine wc_skip ?_
    refine sq_n ?_
    refine wc_seq ?_
    refine wc_region ?_
    refine wv rfl (r_move rfl) ?_
    refine w_call rfl rfl (ct_laws_toIntS _ _ aT (hM.arg (.head _)) (by omega)) ?_
    rintro v3 w2 ⟨hR4, hov3⟩
    have hM := hM.gain hR4 hov3
    refine wv rfl (r_move rfl) ?_
    refine w_call rfl rfl (ct_spec_RowSigns _ _ aT (Of.arg (hM.at' (.head _)) (fun _ => rfl)) aRow) ?_
    rintro _ w5 ⟨v6, rfl, hR7, hov6⟩
    have hM := hM.gain hR7 hov6
    refine wv rfl (r_move rfl) ?_
    refine wv rfl (r_extract rfl rfl) ?_
    refine wv rfl (r_extract rfl rfl) ?_
    refine wv rfl (r_assign rfl) ?_
    refine wv rfl (r_assign rfl) ?_
    refine wl_nil ?_
    refine sq_n ?_
    refine wc_seq ?_
    refine wc_region ?_
    refine wv rfl (r_move rfl) ?_
    refine w_call rfl rfl (ct_laws_toIntS _ _ aT (hM.arg (.head _)) (by omega)) ?_
    rintro v9 w8 ⟨hR10, hov9⟩
    have hM := hM.gain hR10 hov9
    refine wv rfl (r_assign rfl) ?_
    refine wl_nil ?_
    refine sq_n ?_
    refine wc_seq ?_
    refine wc_region ?_
    refine wv rfl (r_move rfl) ?_
    refine wv rfl (r_move rfl) ?_
    refine w_call rfl rfl (ct_impl_RowSigns _ _ aT (Of.arg (hM.at' (.head _)) (fun _ => rfl)) aRow) ?_
    rintro _ w11 ⟨v12, rfl, hR13, hov12⟩
    have hM := hM.gain hR13 hov12
    refine wv rfl (r_move rfl) ?_
    refine wv rfl (r_extract rfl rfl) ?_
    refine wv rfl (r_extract rfl rfl) ?_
    refine wv rfl (r_assign rfl) ?_
    refine wv rfl (r_assign rfl) ?_
    refine wl_nil ?_
    refine sq_n ?_
    refine wc_seq ?_
    refine wc_seq ?_
    refine wc_region ?_
    refine wv rfl (r_move rfl) ?_
    refine wv rfl (r_move rfl) ?_
    refine w_call rfl rfl (ct_laws_eqIntS _ _ ((rowSigns aT aRow).1) (Of.arg (hM.at' (.head _)) (fun _ => rfl)) _ ((rowSigns aT aRow).1) (Of.arg (hM.at' (.tail _ (.tail _ (.head _)))) (fun _ => rfl))) ?_
    rintro _ w14 ⟨rfl, hR15⟩
    have hM := hM.call hR15
    refine wv rfl (r_not rfl) ?_
    refine wv rfl (r_move rfl) ?_
    refine wl_mid 4 (fun _ : Unit => [(41, (.bool ((!(decide (((rowSigns aT aRow).1) = ((rowSigns aT aRow).1)))) || (!(((rowSigns aT aRow).2) == ((rowSigns aT aRow).2)))))), (0, v_aT), (1, (.int .i64 aRow)), (5, v6), (6, (.bool ((rowSigns aT aRow).2))), (7, v9), (8, v12), (9, (.bool ((rowSigns aT aRow).2)))]) (fun _ w' => St (b0 w) [oF v12 3 1 fI ((rowSigns aT aRow).1), oF v9 3 1 fI aT, oF v6 3 1 fI ((rowSigns aT aRow).1), oF v3 3 1 fI aT] [([v_aT], dFs 1 fI aT)] w') ?_ ?_
    · rcases Bool.eq_false_or_eq_true (!(decide (((rowSigns aT aRow).1) = ((rowSigns aT aRow).1)))) with hg16 | hg16
      · skip
        refine gs rfl (isB_no hg16) rfl ?_
        refine gs rfl (isB_no hg16) rfl ?_
        refine gs rfl (isB_no hg16) rfl ?_
        refine wv rfl (p_t rfl hg16 rfl) ?_
        exact mid_nil () ⟨bcongr (or_t hg16), rfl, rfl, rfl, rfl, rfl, rfl, rfl, trivial⟩ hM
      · skip
        refine gv rfl hg16 rfl (r_move rfl) ?_
        refine gv rfl hg16 rfl (r_move rfl) ?_
        refine gv rfl hg16 rfl (r_neqb Try.underlying4 rfl rfl) ?_
        refine wv rfl (p_f rfl hg16 rfl) ?_
        exact mid_nil () ⟨bcongr (or_f hg16), rfl, rfl, rfl, rfl, rfl, rfl, rfl, trivial⟩ hM
    rintro _ w17 hM
    refine wl_nil ?_
    refine sq_n ?_
    refine wc_cond rfl (fun hc18 => ?_) (fun hc18 => ?_)
    · skip
      exact absurd hc18 (by first | omega | (intro hn; exact hn rfl) | (simp; done) | (simp; omega))
    · skip
      obtain ⟨hc18a, hc18b⟩ := (Bool.or_eq_false_iff).1 hc18
      have hc18a := bnot_f hc18a
      have hc18a := of_decide_eq_true hc18a
      refine wc_skip ?_
      refine sq_n ?_
      refine wc_seq ?_
      refine wc_seq ?_
      refine wc_region ?_
      refine wv rfl (r_move rfl) ?_
      refine wv rfl (r_move rfl) ?_
      refine w_call rfl rfl (ct_laws_toIntS _ _ aT (hM.arg (.head _)) (by omega)) ?_
      rintro v20 w19 ⟨hR21, hov20⟩
      have hM := hM.gain hR21 hov20
      refine w_call rfl rfl (ct_laws_eqIntS _ _ aT (Of.arg (hM.at' (.tail _ (.tail _ (.head _)))) (fun _ => rfl)) _ aT (Of.arg (hM.at' (.head _)) (fun _ => rfl))) ?_
      rintro _ w22 ⟨rfl, hR23⟩
      have hM := hM.call hR23
      refine wv rfl (r_not rfl) ?_
      refine wl_nil ?_
      refine sq_n ?_
      refine wc_cond rfl (fun hc24 => ?_) (fun hc24 => ?_)
      · skip
        have hc24 := bnot_t hc24
        have hc24 := of_decide_eq_false hc24
        exact absurd hc24 (by first | omega | (intro hn; exact hn rfl) | (simp; done) | (simp; omega))
      · skip
        have hc24 := bnot_f hc24
        have hc24 := of_decide_eq_true hc24
        refine wc_skip ?_
        refine sq_n ?_
        refine wc_seq ?_
        refine wc_region ?_
        refine wv rfl (r_assign rfl) ?_
        refine wl_nil ?_
        refine sq_n ?_
        refine wc_seq ?_
        refine wc_region ?_
        refine wv rfl (r_move rfl) ?_
        refine wv rfl (r_move rfl) ?_
        refine w_call rfl rfl (ct_laws_markIntS _ _ aT (hM.at' (.tail _ (.tail _ (.head _)))) (1 : Int) (by omega)) ?_
        rintro _ w25 ⟨rfl, hX26, ho27⟩
        have hM := hM.roll
        have hM := hM.lentF hX26 ho27
        have hml := marked_len aT 1 aT.length (Nat.le_refl _)
        refine wv rfl (r_assign rfl) ?_
        refine wl_nil ?_
        refine sq_n ?_
        refine wc_seq ?_
        refine wc_seq ?_
        refine wc_region ?_
        refine wv rfl (r_move rfl) ?_
        refine wv rfl (r_lss rfl rfl) ?_
        refine wv rfl (r_move rfl) ?_
        refine wl_mid 5 (fun _ : Unit => [(57, (.bool ((decide ((1 + (aT.length : Int)) < 0)) || (!(decide (((rowSigns aT aRow).1) = ((rowSigns aT aRow).1))))))), (0, v_aT), (1, (.int .i64 aRow)), (5, v6), (6, (.bool ((rowSigns aT aRow).2))), (8, v12), (9, (.bool ((rowSigns aT aRow).2)))]) (fun _ w' => St (b0 w) [oF v9 3 1 fI (marked aT 1 aT.length), oF v20 3 1 fI aT, oF v12 3 1 fI ((rowSigns aT aRow).1), oF v6 3 1 fI ((rowSigns aT aRow).1), oF v3 3 1 fI aT] [([v_aT], dFs 1 fI aT)] w') ?_ ?_
        · rcases Bool.eq_false_or_eq_true (decide ((1 + (aT.length : Int)) < 0)) with hg28 | hg28
          · skip
            have hg28p := of_decide_eq_true hg28
            refine gs rfl (isB_no hg28) rfl ?_
            refine gs rfl (isB_no hg28) rfl ?_
            refine gs rfl (isB_no hg28) rfl ?_
            refine gs rfl (isB_no hg28) rfl ?_
            refine wv rfl (p_t rfl hg28 rfl) ?_
            exact mid_nil () ⟨bcongr (or_t hg28), rfl, rfl, rfl, rfl, rfl, rfl, trivial⟩ hM
          · skip
            have hg28p := of_decide_eq_false hg28
            refine gv rfl hg28 rfl (r_move rfl) ?_
            refine gv rfl hg28 rfl (r_move rfl) ?_
            refine gc rfl hg28 rfl rfl (ct_laws_eqIntS _ _ ((rowSigns aT aRow).1) (Of.arg (hM.at' (.tail _ (.tail _ (.head _)))) (fun _ => rfl)) _ ((rowSigns aT aRow).1) (Of.arg (hM.at' (.tail _ (.tail _ (.tail _ (.head _))))) (fun _ => rfl))) ?_
            rintro _ w29 ⟨rfl, hR30⟩
            have hM := hM.call hR30
            refine gv rfl hg28 rfl (r_not rfl) ?_
            refine wv rfl (p_f rfl hg28 rfl) ?_
            exact mid_nil () ⟨bcongr (or_f hg28), rfl, rfl, rfl, rfl, rfl, rfl, trivial⟩ hM
        rintro _ w31 hM
        refine wv rfl (r_move rfl) ?_
        refine wl_mid 4 (fun _ : Unit => [(62, (.bool (((decide ((1 + (aT.length : Int)) < 0)) || (!(decide (((rowSigns aT aRow).1) = ((rowSigns aT aRow).1))))) || (!(((rowSigns aT aRow).2) == ((rowSigns aT aRow).2)))))), (0, v_aT), (1, (.int .i64 aRow)), (5, v6), (6, (.bool ((rowSigns aT aRow).2))), (8, v12)]) (fun _ w' => St (b0 w) [oF v9 3 1 fI (marked aT 1 aT.length), oF v20 3 1 fI aT, oF v12 3 1 fI ((rowSigns aT aRow).1), oF v6 3 1 fI ((rowSigns aT aRow).1), oF v3 3 1 fI aT] [([v_aT], dFs 1 fI aT)] w') ?_ ?_
        · rcases Bool.eq_false_or_eq_true ((decide ((1 + (aT.length : Int)) < 0)) || (!(decide (((rowSigns aT aRow).1) = ((rowSigns aT aRow).1))))) with hg32 | hg32
          · skip
            refine gs rfl (isB_no hg32) rfl ?_
            refine gs rfl (isB_no hg32) rfl ?_
            refine gs rfl (isB_no hg32) rfl ?_
            refine wv rfl (p_t rfl hg32 rfl) ?_
            exact mid_nil () ⟨bcongr (or_t hg32), rfl, rfl, rfl, rfl, rfl, trivial⟩ hM
          · skip
            refine gv rfl hg32 rfl (r_move rfl) ?_
            refine gv rfl hg32 rfl (r_move rfl) ?_
            refine gv rfl hg32 rfl (r_neqb Try.underlying4 rfl rfl) ?_
            refine wv rfl (p_f rfl hg32 rfl) ?_
            exact mid_nil () ⟨bcongr (or_f hg32), rfl, rfl, rfl, rfl, rfl, trivial⟩ hM
        rintro _ w33 hM
        refine wl_nil ?_
        refine sq_n ?_
        refine wc_cond rfl (fun hc34 => ?_) (fun hc34 => ?_)
        · skip
          exact absurd hc34 (by first | omega | (intro hn; exact hn rfl) | (simp; done) | (simp; omega))
        · skip
          obtain ⟨hc34a, hc34b⟩ := (Bool.or_eq_false_iff).1 hc34
          obtain ⟨hc34aa, hc34ab⟩ := (Bool.or_eq_false_iff).1 hc34a
          have hc34aa := of_decide_eq_false hc34aa
          have hc34ab := bnot_f hc34ab
          have hc34ab := of_decide_eq_true hc34ab
          refine wc_skip ?_
          refine sq_n ?_
          refine wc_seq ?_
          refine wc_region ?_
          refine wv rfl (r_assign rfl) ?_
          refine wl_nil ?_
          refine sq_n ?_
          refine wc_seq ?_
          refine wc_region ?_
          refine wv rfl (r_move rfl) ?_
          refine wv rfl (r_move rfl) ?_
          refine w_call rfl rfl (ct_laws_markIntS _ _ ((rowSigns aT aRow).1) (hM.at' (.tail _ (.tail _ (.head _)))) (1 : Int) (by omega)) ?_
          rintro _ w35 ⟨rfl, hX36, ho37⟩
          have hM := hM.roll
          have hM := hM.lentF hX36 ho37
          have hml := marked_len ((rowSigns aT aRow).1) 1 ((rowSigns aT aRow).1).length (Nat.le_refl _)
          refine wv rfl (r_assign rfl) ?_
          refine wl_nil ?_
          refine sq_n ?_
          refine wc_seq ?_
          refine wc_region ?_
          refine wv rfl (r_assign rfl) ?_
          refine wl_nil ?_
          refine sq_n ?_
          refine wc_seq ?_
          refine wc_region ?_
          refine wv rfl (r_move rfl) ?_
          refine wv rfl (r_move rfl) ?_
          refine w_call rfl rfl (ct_laws_heldIntS _ _ (marked ((rowSigns aT aRow).1) 1 ((rowSigns aT aRow).1).length) (Of.arg (hM.at' (.head _)) (fun _ => rfl)) (1 : Int) (by omega)) ?_
          rintro _ w38 ⟨rfl, hR39⟩
          have hM := hM.call hR39
          rw [held_marked]
          refine wv rfl (r_assign rfl) ?_
          refine wl_nil ?_
          refine sq_n ?_
          refine wc_seq ?_
          refine wc_seq ?_
          refine wc_region ?_
          refine wv rfl (r_move rfl) ?_
          refine wv rfl (r_lss rfl rfl) ?_
          refine wl_nil ?_
          refine sq_n ?_
          refine wc_cond rfl (fun hc40 => ?_) (fun hc40 => ?_)
          · skip
            have hc40 := of_decide_eq_true hc40
            exact absurd hc40 (by first | omega | (intro hn; exact hn rfl) | (simp; done) | (simp; omega))
          · skip
            have hc40 := of_decide_eq_false hc40
            refine wc_skip ?_
            refine sq_n ?_
            refine wc_seq ?_
            refine wc_seq ?_
            refine wc_region ?_
            refine wv rfl (r_move rfl) ?_
            refine wv rfl (r_move rfl) ?_
            refine wv rfl (r_neq rfl rfl) ?_
            refine wl_nil ?_
            refine sq_n ?_
            refine wc_cond rfl (fun hc41 => ?_) (fun hc41 => ?_)
            · skip
              have hc41 := bnot_t hc41
              have hc41 := of_decide_eq_false hc41
              exact absurd hc41 (by first | omega | (intro hn; exact hn rfl) | (simp; done) | (simp; omega))
            · skip
              have hc41 := bnot_f hc41
              have hc41 := of_decide_eq_true hc41
              refine wc_skip ?_
              refine sq_n ?_
              refine wc_seq ?_
              refine wc_region ?_
              refine wv rfl (r_move rfl) ?_
              refine w_call rfl rfl (ct_laws_toIntS _ _ aT (hM.arg (.head _)) (by omega)) ?_
              rintro v43 w42 ⟨hR44, hov43⟩
              have hM := hM.gain hR44 hov43
              refine wv rfl (r_move rfl) ?_
              refine w_call rfl rfl (ct_impl_RowSigns _ _ aT (Of.arg (hM.at' (.head _)) (fun _ => rfl)) aRow) ?_
              rintro _ w45 ⟨v46, rfl, hR47, hov46⟩
              have hM := hM.gain hR47 hov46
              refine wv rfl (r_move rfl) ?_
              refine wv rfl (r_extract rfl rfl) ?_
              refine wv rfl (r_extract rfl rfl) ?_
              refine wv rfl (r_assign rfl) ?_
              refine wv rfl (r_assign rfl) ?_
              refine wl_nil ?_
              refine sq_n ?_
              refine wc_seq ?_
              refine wc_seq ?_
              refine wc_region ?_
              refine wv rfl (r_move rfl) ?_
              refine wv rfl (r_move rfl) ?_
              refine w_call rfl rfl (ct_laws_eqIntS _ _ ((rowSigns aT aRow).1) (Of.arg (hM.at' (.head _)) (fun _ => rfl)) _ ((rowSigns aT aRow).1) (Of.arg (hM.at' (.tail _ (.tail _ (.tail _ (.tail _ (.tail _ (.head _))))))) (fun _ => rfl))) ?_
              rintro _ w48 ⟨rfl, hR49⟩
              have hM := hM.call hR49
              refine wv rfl (r_not rfl) ?_
              refine wv rfl (r_move rfl) ?_
              refine wl_mid 4 (fun _ : Unit => [(89, (.bool ((!(decide (((rowSigns aT aRow).1) = ((rowSigns aT aRow).1)))) || (!(((rowSigns aT aRow).2) == ((rowSigns aT aRow).2)))))), (8, v12), (11, (.int .i64 (1 + (((rowSigns aT aRow).1).length : Int))))]) (fun _ w' => St (b0 w) [oF v46 3 1 fI ((rowSigns aT aRow).1), oF v43 3 1 fI aT, oF v12 3 1 fI (marked ((rowSigns aT aRow).1) 1 ((rowSigns aT aRow).1).length), oF v9 3 1 fI (marked aT 1 aT.length), oF v20 3 1 fI aT, oF v6 3 1 fI ((rowSigns aT aRow).1), oF v3 3 1 fI aT] [([v_aT], dFs 1 fI aT)] w') ?_ ?_
              · rcases Bool.eq_false_or_eq_true (!(decide (((rowSigns aT aRow).1) = ((rowSigns aT aRow).1)))) with hg50 | hg50
                · skip
                  refine gs rfl (isB_no hg50) rfl ?_
                  refine gs rfl (isB_no hg50) rfl ?_
                  refine gs rfl (isB_no hg50) rfl ?_
                  refine wv rfl (p_t rfl hg50 rfl) ?_
                  exact mid_nil () ⟨bcongr (or_t hg50), rfl, rfl, trivial⟩ hM
                · skip
                  refine gv rfl hg50 rfl (r_move rfl) ?_
                  refine gv rfl hg50 rfl (r_move rfl) ?_
                  refine gv rfl hg50 rfl (r_neqb Try.underlying4 rfl rfl) ?_
                  refine wv rfl (p_f rfl hg50 rfl) ?_
                  exact mid_nil () ⟨bcongr (or_f hg50), rfl, rfl, trivial⟩ hM
              rintro _ w51 hM
              refine wl_nil ?_
              refine sq_n ?_
              refine wc_cond rfl (fun hc52 => ?_) (fun hc52 => ?_)
              · skip
                exact absurd hc52 (by first | omega | (intro hn; exact hn rfl) | (simp; done) | (simp; omega))
              · skip
                obtain ⟨hc52a, hc52b⟩ := (Bool.or_eq_false_iff).1 hc52
                have hc52a := bnot_f hc52a
                have hc52a := of_decide_eq_true hc52a
                refine wc_skip ?_
                refine sq_n ?_
                refine wc_seq ?_
                refine wc_region ?_
                refine wv rfl (r_assign rfl) ?_
                refine wl_nil ?_
                refine sq_n ?_
                refine wc_seq ?_
                refine wc_region ?_
                refine wv rfl (r_move rfl) ?_
                refine wv rfl (r_move rfl) ?_
                refine w_call rfl rfl (ct_laws_heldIntS _ _ (marked ((rowSigns aT aRow).1) 1 ((rowSigns aT aRow).1).length) (Of.arg (hM.at' (.tail _ (.tail _ (.head _)))) (fun _ => rfl)) (1 : Int) (by omega)) ?_
                rintro _ w53 ⟨rfl, hR54⟩
                have hM := hM.call hR54
                rw [held_marked]
                refine wv rfl (r_assign rfl) ?_
                refine wl_nil ?_
                refine sq_n ?_
                refine wc_seq ?_
                refine wc_seq ?_
                refine wc_region ?_
                refine wv rfl (r_move rfl) ?_
                refine wv rfl (r_lss rfl rfl) ?_
                refine wl_nil ?_
                refine sq_n ?_
                refine wc_cond rfl (fun hc55 => ?_) (fun hc55 => ?_)
                · skip
                  have hc55 := of_decide_eq_true hc55
                  exact absurd hc55 (by first | omega | (intro hn; exact hn rfl) | (simp; done) | (simp; omega))
                · skip
                  have hc55 := of_decide_eq_false hc55
                  refine wc_skip ?_
                  refine sq_n ?_
                  refine wc_seq ?_
                  refine wc_seq ?_
                  refine wc_region ?_
                  refine wv rfl (r_move rfl) ?_
                  refine wv rfl (r_move rfl) ?_
                  refine wv rfl (r_neq rfl rfl) ?_
                  refine wl_nil ?_
                  refine sq_n ?_
                  refine wc_cond rfl (fun hc56 => ?_) (fun hc56 => ?_)
                  · skip
                    have hc56 := bnot_t hc56
                    have hc56 := of_decide_eq_false hc56
                    exact absurd hc56 (by first | omega | (intro hn; exact hn rfl) | (simp; done) | (simp; omega))
                  · skip
                    have hc56 := bnot_f hc56
                    have hc56 := of_decide_eq_true hc56
                    refine wc_skip ?_
                    refine sq_n ?_
                    refine wc_seq ?_
                    refine wc_region ?_
                    refine wv rfl (r_assign rfl) ?_
                    refine wl_nil ?_
                    refine sq_n ?_
                    refine wc_ret ?_
                    refine fin_ret [(.bool true)] ⟨rfl, trivial⟩ ?_
                    exact ⟨vbool (by simp), hM.rel⟩

end Go.Proofs.Ytenkkffokomonaa
