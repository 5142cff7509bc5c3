/- Walks of functions of this program (printed by a program of ours, by the rules of the layer). No condition. -/
import Derived.Test.YtenkkffokomonaaWA
namespace Go.Proofs.Ytenkkffokomonaa
open Go.RowKit

theorem ct_impl_RowOf (w : World) (v_t : Value) (t : List Int) (a_t : Arg w [v_t] (dFs 1 fI t)) (p : Int) : Ret Try.prog 27 [v_t, .int .i64 p] w (fun u w' => u = .tuple #[.int .i64 ((rowOf t p).1), .int .i64 ((rowOf t p).2.1), .bool ((rowOf t p).2.2)] ∧ Rel w w') := by
  refine enter Try.func27 rfl Try.ntmps27 (by kernel_rfl) rfl ?_
  have hM := St.init w
  have hM := hM.addA a_t
  have hl_t := Fs.le a_t
  refine wc_seq ?_
  refine wc_region ?_
  refine wv rfl (r_assign rfl) ?_
  refine wv rfl (r_assign rfl) ?_
  refine wv rfl (r_assign rfl) ?_
  refine wl_nil ?_
  refine sq_n ?_
  refine wc_seq ?_
  refine wc_seq ?_
  refine wc_region ?_
  refine wv rfl (r_move rfl) ?_
  refine w_call rfl rfl (ct_impl_TextOk _ _ t (hM.arg (.head _))) ?_
  rintro _ w1 ⟨rfl, hR2⟩
  have hM := hM.call hR2
  refine wv rfl (r_not rfl) ?_
  refine wv rfl (r_move rfl) ?_
  refine wl_mid 6 (fun _ : Unit => [(18, (.bool ((!(textOk t)) || (!(within p 0 (t.length : Int)))))), (0, v_t), (1, (.int .i64 p))]) (fun _ w' => St (b0 w) [] [([v_t], dFs 1 fI t)] w') ?_ ?_
  · rcases Bool.eq_false_or_eq_true (!(textOk t)) with hg3 | hg3
    · skip
      refine gs rfl (isB_no hg3) rfl ?_
      refine gs rfl (isB_no hg3) rfl ?_
      refine gs rfl (isB_no hg3) rfl ?_
      refine gs rfl (isB_no hg3) rfl ?_
      refine gs rfl (isB_no hg3) rfl ?_
      refine wv rfl (p_t rfl hg3 rfl) ?_
      exact mid_nil () ⟨bcongr (or_t hg3), rfl, rfl, trivial⟩ hM
    · skip
      refine gv rfl hg3 rfl (r_move rfl) ?_
      refine gv rfl hg3 rfl (r_move rfl) ?_
      refine gv rfl hg3 rfl (r_lenF Try.underlying29 rfl (hM.arg (.head _))) ?_
      refine gc rfl hg3 rfl rfl (ct_impl_within _ p (0 : Int) (t.length : Int)) ?_
      rintro _ w4 ⟨rfl, hR5⟩
      have hM := hM.call hR5
      refine gv rfl hg3 rfl (r_not rfl) ?_
      refine wv rfl (p_f rfl hg3 rfl) ?_
      exact mid_nil () ⟨bcongr (or_f hg3), rfl, rfl, trivial⟩ hM
  rintro _ w6 hM
  refine wl_nil ?_
  refine sq_n ?_
  refine wc_cond rfl (fun hc7 => ?_) (fun hc7 => ?_)
  · skip
    have hno : rowOf t p = (0, 0, false) := rowOf_no (by cases hq : textOk t <;> simp_all)
    refine wc_seq ?_
    refine wc_region ?_
    refine wv rfl (r_assign rfl) ?_
    refine wv rfl (r_assign rfl) ?_
    refine wv rfl (r_assign rfl) ?_
    refine wl_nil ?_
    refine sq_n ?_
    refine wc_ret ?_
    refine sq_ret ?_
    refine fin_ret [(.int .i64 0), (.int .i64 0), (.bool false)] ⟨rfl, rfl, rfl, trivial⟩ ?_
    exact ⟨tup3 (vint (by rw [hno])) (vint (by rw [hno])) (vbool (by rw [hno])), hM.rel⟩
  · skip
    obtain ⟨hc7a, hc7b⟩ := (Bool.or_eq_false_iff).1 hc7
    have hc7a := bnot_f hc7a
    have hc7b := bnot_f hc7b
    have hw := within_iff.1 hc7b
    refine wc_skip ?_
    refine sq_n ?_
    refine wc_seq ?_
    refine wc_region ?_
    refine wv rfl (r_move rfl) ?_
    refine w_call rfl rfl (ct_impl_Rows _ _ t (hM.arg (.head _))) ?_
    rintro v9 w8 ⟨hR10, hov9⟩
    have hM := hM.gain hR10 hov9
    have hM := hM.sealO (fun _ => rfl)
    have hpos := rows_pos (t := t) (by assumption)
    have hrl := rows_len_le t
    refine wv rfl (r_assign rfl) ?_
    refine wl_nil ?_
    refine sq_n ?_
    refine wc_seq ?_
    refine wc_region ?_
    refine wv rfl (r_move rfl) ?_
    refine wv rfl (r_lenF Try.underlying29 rfl (hM.arg (.head _))) ?_
    refine wv rfl (r_sub rfl rfl ⟨by omega, by omega⟩) ?_
    refine wv rfl (r_assign rfl) ?_
    refine wl_nil ?_
    refine sq_n ?_
    refine wc_seq ?_
    refine wc_block ?_
    refine wc_loop1 (fun (k : Nat) => [(1, (.int .i64 p)), (7, v9), (8, (.int .i64 (k : Int)))]) (fun (k : Nat) w' => St (b0 w) [] [([v9], dFs 1 fI (rows t)), ([v_t], dFs 1 fI t)] w' ∧ k < (rows t).length ∧ rowIdx (rows t) p ((rows t).length - 1) = rowIdx (rows t) p k) (fun (k : Nat) => k) ((rows t).length - 1) ⟨rfl, rfl, icongr (by omega), trivial⟩ ⟨hM, (by omega), (rfl)⟩ ?_
    rintro k w11 ⟨hM, hf0_0, hf0_1⟩
    have hg := rows_get t k
    have htl := textOk_len (t := t) (by assumption)
    refine wc_seq ?_
    refine wc_seq ?_
    refine wc_region ?_
    refine wv rfl (r_move rfl) ?_
    refine wv rfl (r_move rfl) ?_
    refine wv rfl (r_ixF Try.underlying29 sz3 rfl rfl (hM.arg (.head _)) ⟨by omega, by omega⟩) ?_
    refine wv rfl (r_ldF0 (i := k) 0 Try.underlying3 rfl rfl (hM.arg (.head _)) (by omega) rfl) ?_
    refine wv rfl (r_move rfl) ?_
    refine wv rfl (r_gtr rfl rfl) ?_
    refine wl_nil ?_
    refine sq_n ?_
    refine wc_cond rfl (fun hc12 => ?_) (fun hc12 => ?_)
    · skip
      have hc12 := of_decide_eq_true hc12
      have hk1 : k ≠ 0 := fun e => by subst e; have := rows_zero t; omega
      refine wc_skip ?_
      refine sq_n ?_
      refine wc_block ?_
      refine wc_region ?_
      refine wv rfl (r_move rfl) ?_
      refine wv rfl (r_sub rfl rfl ⟨by omega, by omega⟩) ?_
      refine wv rfl (r_assign rfl) ?_
      refine wl_nil ?_
      refine bk_n ?_
      exact lp_end1 (k - 1) (by omega) ⟨rfl, rfl, icongr (by omega), trivial⟩ ⟨hM, (by omega), (by rw [hf0_1, rowIdx_step (by assumption) (by omega)])⟩
    · skip
      have hc12 := of_decide_eq_false hc12
      refine wc_exit ?_
      refine sq_exit ?_
      refine lp1_exit ?_
      refine bk_here ?_
      refine sq_n ?_
      refine wc_seq ?_
      refine wc_draw [(0, false), (1, false), (2, false), (3, false), (4, false), (5, false), (6, false), (7, false), (8, false), (9, false)] Try_mixed (by kernel_rfl) rfl (by kernel_rfl) rfl ?_
      refine ov rfl (fun w' h' => r_move rfl) ?_
      refine ov rfl (fun w' h' => r_move rfl) ?_
      refine ov rfl (fun w' h' => r_move rfl) ?_
      refine ov rfl (fun w' h' => r_move rfl) ?_
      refine ov rfl (fun w' h' => r_ixF Try.underlying29 sz3 rfl rfl ((hM.call h').arg (.head _)) ⟨by omega, by omega⟩) ?_
      refine ov rfl (fun w' h' => r_ldF0 (i := k) 0 Try.underlying3 rfl rfl ((hM.call h').arg (.head _)) (by omega) rfl) ?_
      refine ov rfl (fun w' h' => r_sub rfl rfl ⟨by omega, by omega⟩) ?_
      refine ov rfl (fun w' h' => r_assign rfl) ?_
      refine ov rfl (fun w' h' => r_assign rfl) ?_
      refine ov rfl (fun w' h' => r_assign rfl) ?_
      refine o_nil fun w13 hw14 => ?_
      have hM := hM.call hw14
      refine sq_n ?_
      refine wc_ret ?_
      have hy := rowOf_yes (t := t) (p := p) (k := k) (by assumption) (by assumption) hf0_1 (by assumption)
      refine fin_ret [(.int .i64 (k : Int)), (.int .i64 (p - ((rows t).getD k 0))), (.bool true)] ⟨rfl, rfl, rfl, trivial⟩ ?_
      exact ⟨tup3 (vint (by rw [hy])) (vint (by rw [hy])) (vbool (by rw [hy])), hM.rel⟩

theorem ct_spec_RowOf (w : World) (v_t : Value) (t : List Int) (a_t : Arg w [v_t] (dFs 1 fI t)) (p : Int) : Ret Try.prog 26 [v_t, .int .i64 p] w (fun u w' => u = .tuple #[.int .i64 ((rowOf t p).1), .int .i64 ((rowOf t p).2.1), .bool ((rowOf t p).2.2)] ∧ Rel w w') := by
  refine enter Try.func26 rfl Try.ntmps26 (by kernel_rfl) rfl ?_
  have hM := St.init w
  have hM := hM.addA a_t
  have hl_t := Fs.le a_t
  refine wc_seq ?_
  refine wc_region ?_
  refine wv rfl (r_assign rfl) ?_
  refine wv rfl (r_assign rfl) ?_
  refine wv rfl (r_assign rfl) ?_
  refine wl_nil ?_
  refine sq_n ?_
  refine wc_seq ?_
  refine wc_region ?_
  refine wv rfl (r_move rfl) ?_
  refine w_call rfl rfl (ct_spec_Rows _ _ t (hM.arg (.head _))) ?_
  rintro v2 w1 ⟨hR3, hov2⟩
  have hM := hM.gain hR3 hov2
  have hM := hM.sealO (fun _ => rfl)
  have hrl := rows_len_le t
  refine wv rfl (r_assign rfl) ?_
  refine wl_nil ?_
  refine sq_n ?_
  refine wc_seq ?_
  refine wc_seq ?_
  refine wc_region ?_
  refine wv rfl (r_move rfl) ?_
  refine wv rfl (r_lenF Try.underlying29 rfl (hM.arg (.head _))) ?_
  refine wv rfl (r_eql rfl rfl) ?_
  refine wv rfl (r_move rfl) ?_
  refine wl_mid 6 (fun _ : Unit => [(20, (.bool ((decide (((rows t).length : Int) = 0)) || (!(within p 0 (t.length : Int)))))), (1, (.int .i64 p)), (7, v2)]) (fun _ w' => St (b0 w) [] [([v2], dFs 1 fI (rows t)), ([v_t], dFs 1 fI t)] w') ?_ ?_
  · rcases Bool.eq_false_or_eq_true (decide (((rows t).length : Int) = 0)) with hg4 | hg4
    · skip
      have hg4p := of_decide_eq_true hg4
      refine gs rfl (isB_no hg4) rfl ?_
      refine gs rfl (isB_no hg4) rfl ?_
      refine gs rfl (isB_no hg4) rfl ?_
      refine gs rfl (isB_no hg4) rfl ?_
      refine gs rfl (isB_no hg4) rfl ?_
      refine wv rfl (p_t rfl hg4 rfl) ?_
      exact mid_nil () ⟨bcongr (or_t hg4), rfl, rfl, trivial⟩ hM
    · skip
      have hg4p := of_decide_eq_false hg4
      refine gv rfl hg4 rfl (r_move rfl) ?_
      refine gv rfl hg4 rfl (r_move rfl) ?_
      refine gv rfl hg4 rfl (r_lenF Try.underlying29 rfl (hM.arg (.tail _ (.head _)))) ?_
      refine gc rfl hg4 rfl rfl (ct_spec_l01In _ p (0 : Int) (t.length : Int)) ?_
      rintro _ w5 ⟨rfl, hR6⟩
      have hM := hM.call hR6
      refine gv rfl hg4 rfl (r_not rfl) ?_
      refine wv rfl (p_f rfl hg4 rfl) ?_
      exact mid_nil () ⟨bcongr (or_f hg4), rfl, rfl, trivial⟩ hM
  rintro _ w7 hM
  refine wl_nil ?_
  refine sq_n ?_
  refine wc_cond rfl (fun hc8 => ?_) (fun hc8 => ?_)
  · skip
    have hno : rowOf t p = (0, 0, false) := rowOf_no2 hc8
    refine wc_seq ?_
    refine wc_region ?_
    refine wv rfl (r_assign rfl) ?_
    refine wv rfl (r_assign rfl) ?_
    refine wv rfl (r_assign rfl) ?_
    refine wl_nil ?_
    refine sq_n ?_
    refine wc_ret ?_
    refine sq_ret ?_
    refine fin_ret [(.int .i64 0), (.int .i64 0), (.bool false)] ⟨rfl, rfl, rfl, trivial⟩ ?_
    exact ⟨tup3 (vint (by rw [hno])) (vint (by rw [hno])) (vbool (by rw [hno])), hM.rel⟩
  · skip
    obtain ⟨hc8a, hc8b⟩ := (Bool.or_eq_false_iff).1 hc8
    have hc8a := of_decide_eq_false hc8a
    have hc8b := bnot_f hc8b
    have hw := within_iff.1 hc8b
    have htx : textOk t = true := rows_len_of (by omega)
    have hpos := rows_pos htx
    refine wc_skip ?_
    refine sq_n ?_
    refine wc_seq ?_
    refine wc_region ?_
    refine wv rfl (r_move rfl) ?_
    refine wv rfl (r_lenF Try.underlying29 rfl (hM.arg (.head _))) ?_
    refine wv rfl (r_sub rfl rfl ⟨by omega, by omega⟩) ?_
    refine wv rfl (r_assign rfl) ?_
    refine wl_nil ?_
    refine sq_n ?_
    refine wc_seq ?_
    refine wc_block ?_
    refine wc_loop1 (fun (k : Nat) => [(1, (.int .i64 p)), (7, v2), (8, (.int .i64 (k : Int)))]) (fun (k : Nat) w' => St (b0 w) [] [([v2], dFs 1 fI (rows t)), ([v_t], dFs 1 fI t)] w' ∧ k < (rows t).length ∧ rowIdx (rows t) p ((rows t).length - 1) = rowIdx (rows t) p k) (fun (k : Nat) => k) ((rows t).length - 1) ⟨rfl, rfl, icongr (by omega), trivial⟩ ⟨hM, (by omega), (rfl)⟩ ?_
    rintro k w9 ⟨hM, hf0_0, hf0_1⟩
    have hg := rows_get t k
    have htl := textOk_len (t := t) (by assumption)
    refine wc_seq ?_
    refine wc_seq ?_
    refine wc_region ?_
    refine wv rfl (r_move rfl) ?_
    refine wv rfl (r_move rfl) ?_
    refine wv rfl (r_ixF Try.underlying29 sz3 rfl rfl (hM.arg (.head _)) ⟨by omega, by omega⟩) ?_
    refine wv rfl (r_ldF0 (i := k) 0 Try.underlying3 rfl rfl (hM.arg (.head _)) (by omega) rfl) ?_
    refine wv rfl (r_move rfl) ?_
    refine wv rfl (r_gtr rfl rfl) ?_
    refine wl_nil ?_
    refine sq_n ?_
    refine wc_cond rfl (fun hc10 => ?_) (fun hc10 => ?_)
    · skip
      have hc10 := of_decide_eq_true hc10
      have hk1 : k ≠ 0 := fun e => by subst e; have := rows_zero t; omega
      refine wc_skip ?_
      refine sq_n ?_
      refine wc_block ?_
      refine wc_region ?_
      refine wv rfl (r_move rfl) ?_
      refine wv rfl (r_sub rfl rfl ⟨by omega, by omega⟩) ?_
      refine wv rfl (r_assign rfl) ?_
      refine wl_nil ?_
      refine bk_n ?_
      exact lp_end1 (k - 1) (by omega) ⟨rfl, rfl, icongr (by omega), trivial⟩ ⟨hM, (by omega), (by rw [hf0_1, rowIdx_step (by assumption) (by omega)])⟩
    · skip
      have hc10 := of_decide_eq_false hc10
      refine wc_exit ?_
      refine sq_exit ?_
      refine lp1_exit ?_
      refine bk_here ?_
      refine sq_n ?_
      refine wc_seq ?_
      refine wc_draw [(0, false), (1, false), (2, false), (3, false), (4, false), (5, false), (6, false), (7, false), (8, false), (9, false)] Try_mixed (by kernel_rfl) rfl (by kernel_rfl) rfl ?_
      refine ov rfl (fun w' h' => r_move rfl) ?_
      refine ov rfl (fun w' h' => r_move rfl) ?_
      refine ov rfl (fun w' h' => r_move rfl) ?_
      refine ov rfl (fun w' h' => r_move rfl) ?_
      refine ov rfl (fun w' h' => r_ixF Try.underlying29 sz3 rfl rfl ((hM.call h').arg (.head _)) ⟨by omega, by omega⟩) ?_
      refine ov rfl (fun w' h' => r_ldF0 (i := k) 0 Try.underlying3 rfl rfl ((hM.call h').arg (.head _)) (by omega) rfl) ?_
      refine ov rfl (fun w' h' => r_sub rfl rfl ⟨by omega, by omega⟩) ?_
      refine ov rfl (fun w' h' => r_assign rfl) ?_
      refine ov rfl (fun w' h' => r_assign rfl) ?_
      refine ov rfl (fun w' h' => r_assign rfl) ?_
      refine o_nil fun w11 hw12 => ?_
      have hM := hM.call hw12
      refine sq_n ?_
      refine wc_ret ?_
      have hy := rowOf_yes (t := t) (p := p) (k := k) (by assumption) (by assumption) hf0_1 (by assumption)
      refine fin_ret [(.int .i64 (k : Int)), (.int .i64 (p - ((rows t).getD k 0))), (.bool true)] ⟨rfl, rfl, rfl, trivial⟩ ?_
      exact ⟨tup3 (vint (by rw [hy])) (vint (by rw [hy])) (vbool (by rw [hy])), hM.rel⟩

theorem ct_impl_rowEnds (w : World) (v_t : Value) (t : List Int) (a_t : Arg w [v_t] (dFs 1 fI t)) (row : Int) : Ret Try.prog 49 [v_t, .int .i64 row] w (fun u w' => u = .tuple #[.int .i64 ((rowEnds t row).1), .int .i64 ((rowEnds t row).2.1), .bool ((rowEnds t row).2.2)] ∧ Rel w w') := by
  refine enter Try.func49 rfl Try.ntmps49 (by kernel_rfl) rfl ?_
  have hM := St.init w
  have hM := hM.addA a_t
  have hl_t := Fs.le a_t
  refine wc_seq ?_
  refine wc_region ?_
  refine wv rfl (r_assign rfl) ?_
  refine wv rfl (r_assign rfl) ?_
  refine wv rfl (r_assign rfl) ?_
  refine wl_nil ?_
  refine sq_n ?_
  refine wc_seq ?_
  refine wc_region ?_
  refine wv rfl (r_move rfl) ?_
  refine w_call rfl rfl (ct_impl_Rows _ _ t (hM.arg (.head _))) ?_
  rintro v2 w1 ⟨hR3, hov2⟩
  have hM := hM.gain hR3 hov2
  have hM := hM.sealO (fun _ => rfl)
  have hrl := rows_len_le t
  refine wv rfl (r_assign rfl) ?_
  refine wl_nil ?_
  refine sq_n ?_
  refine wc_seq ?_
  refine wc_seq ?_
  refine wc_region ?_
  refine wv rfl (r_move rfl) ?_
  refine wv rfl (r_move rfl) ?_
  refine wv rfl (r_lenF Try.underlying29 rfl (hM.arg (.head _))) ?_
  refine wv rfl (r_sub rfl rfl ⟨by omega, by omega⟩) ?_
  refine w_call rfl rfl (ct_impl_within _ row (0 : Int) (((rows t).length : Int) - 1)) ?_
  rintro _ w4 ⟨rfl, hR5⟩
  have hM := hM.call hR5
  refine wv rfl (r_not rfl) ?_
  refine wl_nil ?_
  refine sq_n ?_
  refine wc_cond rfl (fun hc6 => ?_) (fun hc6 => ?_)
  · skip
    have hc6 := bnot_t hc6
    have hy := rowEnds_no hc6
    refine wc_seq ?_
    refine wc_region ?_
    refine wv rfl (r_assign rfl) ?_
    refine wv rfl (r_assign rfl) ?_
    refine wv rfl (r_assign rfl) ?_
    refine wl_nil ?_
    refine sq_n ?_
    refine wc_ret ?_
    refine sq_ret ?_
    refine fin_ret [(.int .i64 0), (.int .i64 0), (.bool false)] ⟨rfl, rfl, rfl, trivial⟩ ?_
    exact ⟨tup3 (vint (by rw [hy])) (vint (by rw [hy])) (vbool (by rw [hy])), hM.rel⟩
  · skip
    have hc6 := bnot_f hc6
    have hw := within_iff.1 hc6
    have htl := textOk_len (rows_len_of (t := t) (by omega))
    have hg1 := rows_get t (row + 1).toNat
    refine wc_skip ?_
    refine sq_n ?_
    refine wc_seq ?_
    refine wc_seq ?_
    refine wc_region ?_
    refine wv rfl (r_move rfl) ?_
    refine wv rfl (r_add rfl rfl ⟨by omega, by omega⟩) ?_
    refine wv rfl (r_move rfl) ?_
    refine wv rfl (r_lenF Try.underlying29 rfl (hM.arg (.head _))) ?_
    refine wv rfl (r_lss rfl rfl) ?_
    refine wl_nil ?_
    refine sq_n ?_
    refine wc_cond rfl (fun hc7 => ?_) (fun hc7 => ?_)
    · skip
      have hc7 := of_decide_eq_true hc7
      have hy := rowEnds_mid (by assumption) hc7
      refine wc_seq ?_
      refine wc_draw [(0, false), (1, false), (2, false), (3, false), (4, false), (5, false), (6, false), (7, false), (8, false), (9, false), (10, false), (11, false), (12, false)] Try_mixed (by kernel_rfl) rfl (by kernel_rfl) rfl ?_
      refine ov rfl (fun w' h' => r_move rfl) ?_
      refine ov rfl (fun w' h' => r_move rfl) ?_
      refine ov rfl (fun w' h' => r_ixF Try.underlying29 sz3 rfl rfl ((hM.call h').arg (.head _)) ⟨by omega, by omega⟩) ?_
      refine ov rfl (fun w' h' => r_ldF0 (i := row.toNat) 0 Try.underlying3 rfl rfl ((hM.call h').arg (.head _)) (by omega) rfl) ?_
      refine ov rfl (fun w' h' => r_move rfl) ?_
      refine ov rfl (fun w' h' => r_move rfl) ?_
      refine ov rfl (fun w' h' => r_add rfl rfl ⟨by omega, by omega⟩) ?_
      refine ov rfl (fun w' h' => r_ixF Try.underlying29 sz3 rfl rfl ((hM.call h').arg (.head _)) ⟨by omega, by omega⟩) ?_
      refine ov rfl (fun w' h' => r_ldF0 (i := ((row + 1).toNat)) 0 Try.underlying3 rfl rfl ((hM.call h').arg (.head _)) (by omega) rfl) ?_
      refine ov rfl (fun w' h' => r_sub rfl rfl ⟨by omega, by omega⟩) ?_
      refine ov rfl (fun w' h' => r_assign rfl) ?_
      refine ov rfl (fun w' h' => r_assign rfl) ?_
      refine ov rfl (fun w' h' => r_assign rfl) ?_
      refine o_nil fun w8 hw9 => ?_
      have hM := hM.call hw9
      refine sq_n ?_
      refine wc_ret ?_
      refine sq_ret ?_
      refine fin_ret [(.int .i64 ((rows t).getD row.toNat 0)), (.int .i64 (((rows t).getD ((row + 1).toNat) 0) - 1)), (.bool true)] ⟨rfl, rfl, rfl, trivial⟩ ?_
      exact ⟨tup3 (vint (by rw [hy])) (vint (by rw [hy])) (vbool (by rw [hy])), hM.rel⟩
    · skip
      have hc7 := of_decide_eq_false hc7
      have hy := rowEnds_last (by assumption) hc7
      refine wc_skip ?_
      refine sq_n ?_
      refine wc_seq ?_
      refine wc_region ?_
      refine wv rfl (r_move rfl) ?_
      refine wv rfl (r_move rfl) ?_
      refine wv rfl (r_ixF Try.underlying29 sz3 rfl rfl (hM.arg (.head _)) ⟨by omega, by omega⟩) ?_
      refine wv rfl (r_ldF0 (i := row.toNat) 0 Try.underlying3 rfl rfl (hM.arg (.head _)) (by omega) rfl) ?_
      refine wv rfl (r_move rfl) ?_
      refine wv rfl (r_lenF Try.underlying29 rfl (hM.arg (.tail _ (.head _)))) ?_
      refine wv rfl (r_assign rfl) ?_
      refine wv rfl (r_assign rfl) ?_
      refine wv rfl (r_assign rfl) ?_
      refine wl_nil ?_
      refine sq_n ?_
      refine wc_ret ?_
      refine fin_ret [(.int .i64 ((rows t).getD row.toNat 0)), (.int .i64 (t.length : Int)), (.bool true)] ⟨rfl, rfl, rfl, trivial⟩ ?_
      exact ⟨tup3 (vint (by rw [hy])) (vint (by rw [hy])) (vbool (by rw [hy])), hM.rel⟩

theorem ct_spec_l26Ends (w : World) (v_t : Value) (t : List Int) (a_t : Arg w [v_t] (dFs 1 fI t)) (row : Int) : Ret Try.prog 48 [v_t, .int .i64 row] w (fun u w' => u = .tuple #[.int .i64 ((rowEnds t row).1), .int .i64 ((rowEnds t row).2.1), .bool ((rowEnds t row).2.2)] ∧ Rel w w') := by
  refine enter Try.func48 rfl Try.ntmps48 (by kernel_rfl) rfl ?_
  have hM := St.init w
  have hM := hM.addA a_t
  have hl_t := Fs.le a_t
  refine wc_seq ?_
  refine wc_region ?_
  refine wv rfl (r_assign rfl) ?_
  refine wv rfl (r_assign rfl) ?_
  refine wv rfl (r_assign rfl) ?_
  refine wl_nil ?_
  refine sq_n ?_
  refine wc_seq ?_
  refine wc_region ?_
  refine wv rfl (r_move rfl) ?_
  refine w_call rfl rfl (ct_spec_Rows _ _ t (hM.arg (.head _))) ?_
  rintro v2 w1 ⟨hR3, hov2⟩
  have hM := hM.gain hR3 hov2
  have hM := hM.sealO (fun _ => rfl)
  have hrl := rows_len_le t
  refine wv rfl (r_assign rfl) ?_
  refine wl_nil ?_
  refine sq_n ?_
  refine wc_seq ?_
  refine wc_seq ?_
  refine wc_region ?_
  refine wv rfl (r_move rfl) ?_
  refine wv rfl (r_move rfl) ?_
  refine wv rfl (r_lenF Try.underlying29 rfl (hM.arg (.head _))) ?_
  refine wv rfl (r_sub rfl rfl ⟨by omega, by omega⟩) ?_
  refine w_call rfl rfl (ct_spec_l01In _ row (0 : Int) (((rows t).length : Int) - 1)) ?_
  rintro _ w4 ⟨rfl, hR5⟩
  have hM := hM.call hR5
  refine wv rfl (r_not rfl) ?_
  refine wl_nil ?_
  refine sq_n ?_
  refine wc_cond rfl (fun hc6 => ?_) (fun hc6 => ?_)
  · skip
    have hc6 := bnot_t hc6
    have hy := rowEnds_no hc6
    refine wc_seq ?_
    refine wc_region ?_
    refine wv rfl (r_assign rfl) ?_
    refine wv rfl (r_assign rfl) ?_
    refine wv rfl (r_assign rfl) ?_
    refine wl_nil ?_
    refine sq_n ?_
    refine wc_ret ?_
    refine sq_ret ?_
    refine fin_ret [(.int .i64 0), (.int .i64 0), (.bool false)] ⟨rfl, rfl, rfl, trivial⟩ ?_
    exact ⟨tup3 (vint (by rw [hy])) (vint (by rw [hy])) (vbool (by rw [hy])), hM.rel⟩
  · skip
    have hc6 := bnot_f hc6
    have hw := within_iff.1 hc6
    have htl := textOk_len (rows_len_of (t := t) (by omega))
    have hg1 := rows_get t (row + 1).toNat
    refine wc_skip ?_
    refine sq_n ?_
    refine wc_seq ?_
    refine wc_seq ?_
    refine wc_region ?_
    refine wv rfl (r_move rfl) ?_
    refine wv rfl (r_move rfl) ?_
    refine wv rfl (r_lenF Try.underlying29 rfl (hM.arg (.head _))) ?_
    refine wv rfl (r_sub rfl rfl ⟨by omega, by omega⟩) ?_
    refine wv rfl (r_eql rfl rfl) ?_
    refine wl_nil ?_
    refine sq_n ?_
    refine wc_cond rfl (fun hc7 => ?_) (fun hc7 => ?_)
    · skip
      have hc7 := of_decide_eq_true hc7
      have hy := rowEnds_last (t := t) (row := row) (by assumption) (by omega)
      refine wc_seq ?_
      refine wc_region ?_
      refine wv rfl (r_move rfl) ?_
      refine wv rfl (r_move rfl) ?_
      refine wv rfl (r_ixF Try.underlying29 sz3 rfl rfl (hM.arg (.head _)) ⟨by omega, by omega⟩) ?_
      refine wv rfl (r_ldF0 (i := row.toNat) 0 Try.underlying3 rfl rfl (hM.arg (.head _)) (by omega) rfl) ?_
      refine wv rfl (r_move rfl) ?_
      refine wv rfl (r_lenF Try.underlying29 rfl (hM.arg (.tail _ (.head _)))) ?_
      refine wv rfl (r_assign rfl) ?_
      refine wv rfl (r_assign rfl) ?_
      refine wv rfl (r_assign rfl) ?_
      refine wl_nil ?_
      refine sq_n ?_
      refine wc_ret ?_
      refine sq_ret ?_
      refine fin_ret [(.int .i64 ((rows t).getD row.toNat 0)), (.int .i64 (t.length : Int)), (.bool true)] ⟨rfl, rfl, rfl, trivial⟩ ?_
      exact ⟨tup3 (vint (by rw [hy])) (vint (by rw [hy])) (vbool (by rw [hy])), hM.rel⟩
    · skip
      have hc7 := of_decide_eq_false hc7
      have hy := rowEnds_mid (t := t) (row := row) (by assumption) (by omega)
      refine wc_skip ?_
      refine sq_n ?_
      refine wc_seq ?_
      refine wc_draw [(0, false), (1, false), (2, false), (3, false), (4, false), (5, false), (6, false), (7, false), (8, false), (9, false), (10, false), (11, false), (12, false)] Try_mixed (by kernel_rfl) rfl (by kernel_rfl) rfl ?_
      refine ov rfl (fun w' h' => r_move rfl) ?_
      refine ov rfl (fun w' h' => r_move rfl) ?_
      refine ov rfl (fun w' h' => r_ixF Try.underlying29 sz3 rfl rfl ((hM.call h').arg (.head _)) ⟨by omega, by omega⟩) ?_
      refine ov rfl (fun w' h' => r_ldF0 (i := row.toNat) 0 Try.underlying3 rfl rfl ((hM.call h').arg (.head _)) (by omega) rfl) ?_
      refine ov rfl (fun w' h' => r_move rfl) ?_
      refine ov rfl (fun w' h' => r_move rfl) ?_
      refine ov rfl (fun w' h' => r_add rfl rfl ⟨by omega, by omega⟩) ?_
      refine ov rfl (fun w' h' => r_ixF Try.underlying29 sz3 rfl rfl ((hM.call h').arg (.head _)) ⟨by omega, by omega⟩) ?_
      refine ov rfl (fun w' h' => r_ldF0 (i := ((row + 1).toNat)) 0 Try.underlying3 rfl rfl ((hM.call h').arg (.head _)) (by omega) rfl) ?_
      refine ov rfl (fun w' h' => r_sub rfl rfl ⟨by omega, by omega⟩) ?_
      refine ov rfl (fun w' h' => r_assign rfl) ?_
      refine ov rfl (fun w' h' => r_assign rfl) ?_
      refine ov rfl (fun w' h' => r_assign rfl) ?_
      refine o_nil fun w8 hw9 => ?_
      have hM := hM.call hw9
      refine sq_n ?_
      refine wc_ret ?_
      refine fin_ret [(.int .i64 ((rows t).getD row.toNat 0)), (.int .i64 (((rows t).getD ((row + 1).toNat) 0) - 1)), (.bool true)] ⟨rfl, rfl, rfl, trivial⟩ ?_
      exact ⟨tup3 (vint (by rw [hy])) (vint (by rw [hy])) (vbool (by rw [hy])), hM.rel⟩

theorem ct_impl_PlaceOf (w : World) (v_t : Value) (t : List Int) (a_t : Arg w [v_t] (dFs 1 fI t)) (row : Int) (col : Int) : Ret Try.prog 33 [v_t, .int .i64 row, .int .i64 col] w (fun u w' => u = .tuple #[.int .i64 ((placeOf t row col).1), .bool ((placeOf t row col).2)] ∧ Rel w w') := by
  refine enter Try.func33 rfl Try.ntmps33 (by kernel_rfl) rfl ?_
  have hM := St.init w
  have hM := hM.addA a_t
  have hl_t := Fs.le a_t
  refine wc_seq ?_
  refine wc_region ?_
  refine wv rfl (r_assign rfl) ?_
  refine wv rfl (r_assign rfl) ?_
  refine wl_nil ?_
  refine sq_n ?_
  refine wc_seq ?_
  refine wc_region ?_
  refine wv rfl (r_move rfl) ?_
  refine wv rfl (r_move rfl) ?_
  refine w_call rfl rfl (ct_impl_rowEnds _ _ t (hM.arg (.head _)) row) ?_
  rintro _ w1 ⟨rfl, hR2⟩
  have hM := hM.call hR2
  have hb := rowEnds_bd t row
  refine wv rfl (r_move rfl) ?_
  refine wv rfl (r_extract rfl rfl) ?_
  refine wv rfl (r_extract rfl rfl) ?_
  refine wv rfl (r_extract rfl rfl) ?_
  refine wv rfl (r_assign rfl) ?_
  refine wv rfl (r_assign rfl) ?_
  refine wv rfl (r_assign rfl) ?_
  refine wl_nil ?_
  refine sq_n ?_
  refine wc_seq ?_
  refine wc_seq ?_
  refine wc_region ?_
  refine wv rfl (r_move rfl) ?_
  refine wv rfl (r_not rfl) ?_
  refine wv rfl (r_move rfl) ?_
  refine wl_mid 7 (fun _ : Unit => [(27, (.bool ((!((rowEnds t row).2.2)) || (!(within col 0 (((rowEnds t row).2.1) - ((rowEnds t row).1))))))), (2, (.int .i64 col)), (8, (.int .i64 ((rowEnds t row).1)))]) (fun _ w' => St (b0 w) [] [([v_t], dFs 1 fI t)] w') ?_ ?_
  · rcases Bool.eq_false_or_eq_true (!((rowEnds t row).2.2)) with hg3 | hg3
    · skip
      refine gs rfl (isB_no hg3) rfl ?_
      refine gs rfl (isB_no hg3) rfl ?_
      refine gs rfl (isB_no hg3) rfl ?_
      refine gs rfl (isB_no hg3) rfl ?_
      refine gs rfl (isB_no hg3) rfl ?_
      refine gs rfl (isB_no hg3) rfl ?_
      refine wv rfl (p_t rfl hg3 rfl) ?_
      exact mid_nil () ⟨bcongr (or_t hg3), rfl, rfl, trivial⟩ hM
    · skip
      refine gv rfl hg3 rfl (r_move rfl) ?_
      refine gv rfl hg3 rfl (r_move rfl) ?_
      refine gv rfl hg3 rfl (r_move rfl) ?_
      refine gv rfl hg3 rfl (r_sub rfl rfl ⟨by omega, by omega⟩) ?_
      refine gc rfl hg3 rfl rfl (ct_impl_within _ col (0 : Int) (((rowEnds t row).2.1) - ((rowEnds t row).1))) ?_
      rintro _ w4 ⟨rfl, hR5⟩
      have hM := hM.call hR5
      refine gv rfl hg3 rfl (r_not rfl) ?_
      refine wv rfl (p_f rfl hg3 rfl) ?_
      exact mid_nil () ⟨bcongr (or_f hg3), rfl, rfl, trivial⟩ hM
  rintro _ w6 hM
  refine wl_nil ?_
  refine sq_n ?_
  refine wc_cond rfl (fun hc7 => ?_) (fun hc7 => ?_)
  · skip
    have hy := placeOf_no (t := t) (row := row) (col := col) (by cases hq : (rowEnds t row).2.2 <;> simp_all)
    refine wc_seq ?_
    refine wc_region ?_
    refine wv rfl (r_assign rfl) ?_
    refine wv rfl (r_assign rfl) ?_
    refine wl_nil ?_
    refine sq_n ?_
    refine wc_ret ?_
    refine sq_ret ?_
    refine fin_ret [(.int .i64 0), (.bool false)] ⟨rfl, rfl, trivial⟩ ?_
    exact ⟨tup2 (vint (by rw [hy])) (vbool (by rw [hy])), hM.rel⟩
  · skip
    obtain ⟨hc7a, hc7b⟩ := (Bool.or_eq_false_iff).1 hc7
    have hc7a := bnot_f hc7a
    have hc7b := bnot_f hc7b
    have hw := within_iff.1 hc7b
    have hy := placeOf_yes hc7a hc7b
    refine wc_skip ?_
    refine sq_n ?_
    refine wc_seq ?_
    refine wc_region ?_
    refine wv rfl (r_move rfl) ?_
    refine wv rfl (r_move rfl) ?_
    refine wv rfl (r_add rfl rfl ⟨by omega, by omega⟩) ?_
    refine wv rfl (r_assign rfl) ?_
    refine wv rfl (r_assign rfl) ?_
    refine wl_nil ?_
    refine sq_n ?_
    refine wc_ret ?_
    refine fin_ret [(.int .i64 (((rowEnds t row).1) + col)), (.bool true)] ⟨rfl, rfl, trivial⟩ ?_
    exact ⟨tup2 (vint (by rw [hy])) (vbool (by rw [hy])), hM.rel⟩

theorem ct_spec_PlaceOf (w : World) (v_t : Value) (t : List Int) (a_t : Arg w [v_t] (dFs 1 fI t)) (row : Int) (col : Int) : Ret Try.prog 32 [v_t, .int .i64 row, .int .i64 col] w (fun u w' => u = .tuple #[.int .i64 ((placeOf t row col).1), .bool ((placeOf t row col).2)] ∧ Rel w w') := by
  refine enter Try.func32 rfl Try.ntmps32 (by kernel_rfl) rfl ?_
  have hM := St.init w
  have hM := hM.addA a_t
  have hl_t := Fs.le a_t
  refine wc_seq ?_
  refine wc_region ?_
  refine wv rfl (r_assign rfl) ?_
  refine wv rfl (r_assign rfl) ?_
  refine wl_nil ?_
  refine sq_n ?_
  refine wc_seq ?_
  refine wc_region ?_
  refine wv rfl (r_move rfl) ?_
  refine wv rfl (r_move rfl) ?_
  refine w_call rfl rfl (ct_spec_l26Ends _ _ t (hM.arg (.head _)) row) ?_
  rintro _ w1 ⟨rfl, hR2⟩
  have hM := hM.call hR2
  have hb := rowEnds_bd t row
  refine wv rfl (r_move rfl) ?_
  refine wv rfl (r_extract rfl rfl) ?_
  refine wv rfl (r_extract rfl rfl) ?_
  refine wv rfl (r_extract rfl rfl) ?_
  refine wv rfl (r_assign rfl) ?_
  refine wv rfl (r_assign rfl) ?_
  refine wv rfl (r_assign rfl) ?_
  refine wl_nil ?_
  refine sq_n ?_
  refine wc_seq ?_
  refine wc_seq ?_
  refine wc_region ?_
  refine wv rfl (r_move rfl) ?_
  refine wv rfl (r_not rfl) ?_
  refine wv rfl (r_move rfl) ?_
  refine wl_mid 7 (fun _ : Unit => [(27, (.bool ((!((rowEnds t row).2.2)) || (!(within col 0 (((rowEnds t row).2.1) - ((rowEnds t row).1))))))), (2, (.int .i64 col)), (8, (.int .i64 ((rowEnds t row).1)))]) (fun _ w' => St (b0 w) [] [([v_t], dFs 1 fI t)] w') ?_ ?_
  · rcases Bool.eq_false_or_eq_true (!((rowEnds t row).2.2)) with hg3 | hg3
    · skip
      refine gs rfl (isB_no hg3) rfl ?_
      refine gs rfl (isB_no hg3) rfl ?_
      refine gs rfl (isB_no hg3) rfl ?_
      refine gs rfl (isB_no hg3) rfl ?_
      refine gs rfl (isB_no hg3) rfl ?_
      refine gs rfl (isB_no hg3) rfl ?_
      refine wv rfl (p_t rfl hg3 rfl) ?_
      exact mid_nil () ⟨bcongr (or_t hg3), rfl, rfl, trivial⟩ hM
    · skip
      refine gv rfl hg3 rfl (r_move rfl) ?_
      refine gv rfl hg3 rfl (r_move rfl) ?_
      refine gv rfl hg3 rfl (r_move rfl) ?_
      refine gv rfl hg3 rfl (r_sub rfl rfl ⟨by omega, by omega⟩) ?_
      refine gc rfl hg3 rfl rfl (ct_spec_l01In _ col (0 : Int) (((rowEnds t row).2.1) - ((rowEnds t row).1))) ?_
      rintro _ w4 ⟨rfl, hR5⟩
      have hM := hM.call hR5
      refine gv rfl hg3 rfl (r_not rfl) ?_
      refine wv rfl (p_f rfl hg3 rfl) ?_
      exact mid_nil () ⟨bcongr (or_f hg3), rfl, rfl, trivial⟩ hM
  rintro _ w6 hM
  refine wl_nil ?_
  refine sq_n ?_
  refine wc_cond rfl (fun hc7 => ?_) (fun hc7 => ?_)
  · skip
    have hy := placeOf_no (t := t) (row := row) (col := col) (by cases hq : (rowEnds t row).2.2 <;> simp_all)
    refine wc_seq ?_
    refine wc_region ?_
    refine wv rfl (r_assign rfl) ?_
    refine wv rfl (r_assign rfl) ?_
    refine wl_nil ?_
    refine sq_n ?_
    refine wc_ret ?_
    refine sq_ret ?_
    refine fin_ret [(.int .i64 0), (.bool false)] ⟨rfl, rfl, trivial⟩ ?_
    exact ⟨tup2 (vint (by rw [hy])) (vbool (by rw [hy])), hM.rel⟩
  · skip
    obtain ⟨hc7a, hc7b⟩ := (Bool.or_eq_false_iff).1 hc7
    have hc7a := bnot_f hc7a
    have hc7b := bnot_f hc7b
    have hw := within_iff.1 hc7b
    have hy := placeOf_yes hc7a hc7b
    refine wc_skip ?_
    refine sq_n ?_
    refine wc_seq ?_
    refine wc_region ?_
    refine wv rfl (r_move rfl) ?_
    refine wv rfl (r_move rfl) ?_
    refine wv rfl (r_add rfl rfl ⟨by omega, by omega⟩) ?_
    refine wv rfl (r_assign rfl) ?_
    refine wv rfl (r_assign rfl) ?_
    refine wl_nil ?_
    refine sq_n ?_
    refine wc_ret ?_
    refine fin_ret [(.int .i64 (((rowEnds t row).1) + col)), (.bool true)] ⟨rfl, rfl, trivial⟩ ?_
    exact ⟨tup2 (vint (by rw [hy])) (vbool (by rw [hy])), hM.rel⟩

theorem ct_impl_RowSigns (w : World) (v_t : Value) (t : List Int) (a_t : Arg w [v_t] (dFs 1 fI t)) (row : Int) : Ret Try.prog 39 [v_t, .int .i64 row] w (fun u w' => ∃ y0, u = .tuple #[y0, .bool ((rowSigns t row).2)] ∧ Rel w w' ∧ w'.ownsRow w.heap.size 3 1 y0 ((rowSigns t row).1).length (((rowSigns t row).1).flatMap fI)) := by
  refine enter Try.func39 rfl Try.ntmps39 (by kernel_rfl) rfl ?_
  have hM := St.init w
  have hM := hM.addA a_t
  have hl_t := Fs.le a_t
  refine wc_seq ?_
  refine wc_region ?_
  refine wv rfl (r_assign rfl) ?_
  refine wv rfl (r_assign rfl) ?_
  refine wl_nil ?_
  refine sq_n ?_
  refine wc_seq ?_
  refine wc_region ?_
  refine wv rfl (r_move rfl) ?_
  refine wv rfl (r_move rfl) ?_
  refine w_call rfl rfl (ct_impl_rowEnds _ _ t (hM.arg (.head _)) row) ?_
  rintro _ w1 ⟨rfl, hR2⟩
  have hM := hM.call hR2
  refine wv rfl (r_move rfl) ?_
  refine wv rfl (r_extract rfl rfl) ?_
  refine wv rfl (r_extract rfl rfl) ?_
  refine wv rfl (r_extract rfl rfl) ?_
  refine wv rfl (r_assign rfl) ?_
  refine wv rfl (r_assign rfl) ?_
  refine wv rfl (r_assign rfl) ?_
  refine wl_nil ?_
  refine sq_n ?_
  refine wc_seq ?_
  refine wc_seq ?_
  refine wc_region ?_
  refine wv rfl (r_move rfl) ?_
  refine wv rfl (r_not rfl) ?_
  refine wl_nil ?_
  refine sq_n ?_
  refine wc_cond rfl (fun hc3 => ?_) (fun hc3 => ?_)
  · skip
    have hc3 := bnot_t hc3
    have hy := rowSigns_no hc3
    refine wc_seq ?_
    refine wc_region ?_
    refine wv rfl (r_assign rfl) ?_
    refine wv rfl (r_assign rfl) ?_
    refine wl_nil ?_
    refine sq_n ?_
    refine wc_ret ?_
    refine sq_ret ?_
    have hM := hM.nilF (T := Int) 3 1 fI
    refine fin_ret [.slice none 0 0, (.bool false)] ⟨rfl, rfl, trivial⟩ ?_
    have ho0 := hM.ownR
    rw [show [] = (rowSigns t row).1 from by rw [hy]] at ho0
    exact ⟨(.slice none 0 0), tup2 (rfl) (vbool (by rw [hy])), hM.rel, ho0⟩
  · skip
    have hc3 := bnot_f hc3
    have hb := rowEnds_ok hc3
    have hy := rowSigns_yes hc3
    have hpl : (((t.take (rowEnds t row).2.1.toNat).drop (rowEnds t row).1.toNat).length : Int) ≤ 200 := by simp; omega
    refine wc_skip ?_
    refine sq_n ?_
    refine wc_seq ?_
    refine wc_region ?_
    refine wv rfl (r_move rfl) ?_
    refine wv rfl (r_move rfl) ?_
    refine wv rfl (r_move rfl) ?_
    obtain ⟨v5, hs6, hs6r⟩ := r_slcF (P := Try.prog) (n := 23) (env := [(18, v_t), (19, (.int .i64 ((rowEnds t row).1))), (20, (.int .i64 ((rowEnds t row).2.1)))]) (w := w1) (d := some 21) (g := none) (ty := 29) (pos := "l26_row.go:55") (af := #[⟨0, .data⟩, ⟨1, .data⟩, ⟨2, .data⟩]) (x := (.tmp 18)) (lo := (.tmp 19)) (hi := (.tmp 20)) (i := ((rowEnds t row).1)) (j := ((rowEnds t row).2.1)) Try.underlying29 sz3 rfl rfl rfl (hM.see (.head _)) ⟨by omega, by omega, by omega⟩
    refine wv rfl (Runs.lose hs6 ⟨rfl, rfl, rfl, trivial⟩) ?_
    have hM := hM.more hs6r
    refine w_call rfl rfl (ct_impl_copyInts _ _ ((t.take (((rowEnds t row).2.1).toNat)).drop (((rowEnds t row).1).toNat)) (hM.arg (.head _)) (by omega)) ?_
    rintro v8 w7 ⟨hR9, hov8⟩
    have hM := hM.gain hR9 hov8
    refine wv rfl (r_assign rfl) ?_
    refine wv rfl (r_assign rfl) ?_
    refine wl_nil ?_
    refine sq_n ?_
    refine wc_ret ?_
    refine fin_ret [v8, (.bool true)] ⟨rfl, rfl, trivial⟩ ?_
    have ho0 := hM.ownR
    rw [show ((t.take (((rowEnds t row).2.1).toNat)).drop (((rowEnds t row).1).toNat)) = (rowSigns t row).1 from by rw [hy]] at ho0
    exact ⟨v8, tup2 (rfl) (vbool (by rw [hy])), hM.rel, ho0⟩

theorem ct_spec_RowSigns (w : World) (v_t : Value) (t : List Int) (a_t : Arg w [v_t] (dFs 1 fI t)) (row : Int) : Ret Try.prog 41 [v_t, .int .i64 row] w (fun u w' => ∃ y0, u = .tuple #[y0, .bool ((rowSigns t row).2)] ∧ Rel w w' ∧ w'.ownsRow w.heap.size 3 1 y0 ((rowSigns t row).1).length (((rowSigns t row).1).flatMap fI)) := by
  refine enter Try.func41 rfl Try.ntmps41 (by kernel_rfl) rfl ?_
  have hM := St.init w
  have hM := hM.addA a_t
  have hl_t := Fs.le a_t
  refine wc_seq ?_
  refine wc_region ?_
  refine wv rfl (r_assign rfl) ?_
  refine wv rfl (r_assign rfl) ?_
  refine wl_nil ?_
  refine sq_n ?_
  refine wc_seq ?_
  refine wc_region ?_
  refine wv rfl (r_move rfl) ?_
  refine wv rfl (r_move rfl) ?_
  refine w_call rfl rfl (ct_spec_l26Ends _ _ t (hM.arg (.head _)) row) ?_
  rintro _ w1 ⟨rfl, hR2⟩
  have hM := hM.call hR2
  refine wv rfl (r_move rfl) ?_
  refine wv rfl (r_extract rfl rfl) ?_
  refine wv rfl (r_extract rfl rfl) ?_
  refine wv rfl (r_extract rfl rfl) ?_
  refine wv rfl (r_assign rfl) ?_
  refine wv rfl (r_assign rfl) ?_
  refine wv rfl (r_assign rfl) ?_
  refine wl_nil ?_
  refine sq_n ?_
  refine wc_seq ?_
  refine wc_seq ?_
  refine wc_region ?_
  refine wv rfl (r_move rfl) ?_
  refine wv rfl (r_not rfl) ?_
  refine wl_nil ?_
  refine sq_n ?_
  refine wc_cond rfl (fun hc3 => ?_) (fun hc3 => ?_)
  · skip
    have hc3 := bnot_t hc3
    have hy := rowSigns_no hc3
    refine wc_seq ?_
    refine wc_region ?_
    refine wv rfl (r_assign rfl) ?_
    refine wv rfl (r_assign rfl) ?_
    refine wl_nil ?_
    refine sq_n ?_
    refine wc_ret ?_
    refine sq_ret ?_
    have hM := hM.nilF (T := Int) 3 1 fI
    refine fin_ret [.slice none 0 0, (.bool false)] ⟨rfl, rfl, trivial⟩ ?_
    have ho0 := hM.ownR
    rw [show [] = (rowSigns t row).1 from by rw [hy]] at ho0
    exact ⟨(.slice none 0 0), tup2 (rfl) (vbool (by rw [hy])), hM.rel, ho0⟩
  · skip
    have hc3 := bnot_f hc3
    have hb := rowEnds_ok hc3
    have hy := rowSigns_yes hc3
    have hpl : (((t.take (rowEnds t row).2.1.toNat).drop (rowEnds t row).1.toNat).length : Int) ≤ 200 := by simp; omega
    refine wc_skip ?_
    refine sq_n ?_
    refine wc_seq ?_
    refine wc_region ?_
    refine w_emptyF (f := fI) rfl Try.underlying29 sz3 hM ?_; intro v6 w5 hM
    refine wv rfl (r_move rfl) ?_
    refine wv rfl (r_move rfl) ?_
    refine wv rfl (r_move rfl) ?_
    obtain ⟨v7, hs8, hs8r⟩ := r_slcF (P := Try.prog) (n := 24) (env := [(19, v_t), (20, (.int .i64 ((rowEnds t row).1))), (21, (.int .i64 ((rowEnds t row).2.1)))]) (w := w5) (d := some 22) (g := none) (ty := 29) (pos := "l26_row.go:62") (af := #[⟨1, .data⟩, ⟨2, .data⟩, ⟨3, .data⟩]) (x := (.tmp 19)) (lo := (.tmp 20)) (hi := (.tmp 21)) (i := ((rowEnds t row).1)) (j := ((rowEnds t row).2.1)) Try.underlying29 sz3 rfl rfl rfl (hM.see (.head _)) ⟨by omega, by omega, by omega⟩
    refine wv rfl (Runs.lose hs8 ⟨rfl, rfl, rfl, trivial⟩) ?_
    have hM := hM.more hs8r
    refine w_appendF rfl Try.underlying29 sz3 (fun _ => rfl) rfl rfl (hM.see (.head _)) hM (fun _ => rfl) (by simp only [maxLen, List.length_nil]; omega) (by simp only [List.length_nil]; omega) ?_; intro v10 w9 hM
    refine wv rfl (r_assign rfl) ?_
    refine wv rfl (r_assign rfl) ?_
    refine wl_nil ?_
    refine sq_n ?_
    refine wc_ret ?_
    refine fin_ret [v10, (.bool true)] ⟨rfl, rfl, trivial⟩ ?_
    have ho0 := hM.ownR
    rw [show ([]) ++ ((t.take (((rowEnds t row).2.1).toNat)).drop (((rowEnds t row).1).toNat)) = (rowSigns t row).1 from by rw [hy]; rfl] at ho0
    exact ⟨v10, tup2 (rfl) (vbool (by rw [hy])), hM.rel, ho0⟩

end Go.Proofs.Ytenkkffokomonaa
