/- Walks of functions of this program (printed by a program of ours, by the rules of the layer). No condition. -/
import Derived.Test.YthnnhoabdhhkaaaWQ
namespace Go.Proofs.Ythnnhoabdhhkaaa
open Go.RowKit

theorem ct_slices_Equal_int (w : World) (v_a : Value) (a : List Int) (a_a : Arg w [v_a] (dFs 1 fI a)) (v_b : Value) (b : List Int) (a_b : Arg w [v_b] (dFs 1 fI b)) : Ret Try.prog 110 [v_a, v_b] w (fun u w' => u = .bool (decide (a = b)) ∧ Rel w w') := by
  refine enter Try.func110 rfl Try.ntmps110 (by kernel_rfl) rfl ?_
  have hM := St.init w
  have hM := hM.addA a_a
  have hl_a := Fs.le a_a
  have hM := hM.addA a_b
  have hl_b := Fs.le a_b
  refine wc_seq ?_
  refine wc_region ?_
  refine wv rfl (r_assign rfl) ?_
  refine wl_nil ?_
  refine sq_n ?_
  refine wc_seq ?_
  refine wc_seq ?_
  refine wc_region ?_
  refine wv rfl (r_move rfl) ?_
  refine wv rfl (r_lenF Try.underlying22 rfl (hM.arg (.tail _ (.head _)))) ?_
  refine wv rfl (r_move rfl) ?_
  refine wv rfl (r_lenF Try.underlying22 rfl (hM.arg (.head _))) ?_
  refine wv rfl (r_neq rfl rfl) ?_
  refine wl_nil ?_
  refine sq_n ?_
  refine wc_cond rfl (fun hc1 => ?_) (fun hc1 => ?_)
  · skip
    have hc1 := bnot_t hc1
    have hc1 := of_decide_eq_false hc1
    refine wc_seq ?_
    refine wc_region ?_
    refine wv rfl (r_assign rfl) ?_
    refine wl_nil ?_
    refine sq_n ?_
    refine wc_ret ?_
    refine sq_ret ?_
    refine fin_ret [(.bool false)] ⟨rfl, trivial⟩ ?_
    exact ⟨vbool ((decide_eq_false (fun e => by subst e; exact absurd rfl (by assumption))).symm), hM.rel⟩
  · skip
    have hc1 := bnot_f hc1
    have hc1 := of_decide_eq_true hc1
    refine wc_skip ?_
    refine sq_n ?_
    refine wc_seq ?_
    refine wc_seq ?_
    refine wc_region ?_
    refine wv rfl (r_move rfl) ?_
    refine wv rfl (r_lenF Try.underlying22 rfl (hM.arg (.tail _ (.head _)))) ?_
    refine wv rfl (r_move rfl) ?_
    refine wl_nil ?_
    refine sq_n ?_
    refine wc_block ?_
    refine wc_loop1 (fun (k : Nat) => [(0, v_a), (1, v_b), (12, (.int .i64 (a.length : Int))), (13, (.int .i64 (k : Int)))]) (fun (k : Nat) w' => St (b0 w) [] [([v_b], dFs 1 fI b), ([v_a], dFs 1 fI a)] w' ∧ (k ≤ a.length) ∧ (a.take k = b.take k)) (fun (k : Nat) => a.length - k) 0 ⟨rfl, rfl, rfl, rfl, trivial⟩ ⟨hM, (by omega), (rfl)⟩ ?_
    rintro k w2 ⟨hM, hf0_0, hf0_1⟩
    refine wc_seq ?_
    refine wc_region ?_
    refine wv rfl (r_lss rfl rfl) ?_
    refine wl_nil ?_
    refine sq_n ?_
    refine wc_seq ?_
    refine wc_cond rfl (fun hc3 => ?_) (fun hc3 => ?_)
    · skip
      have hc3 := of_decide_eq_true hc3
      refine wc_skip ?_
      refine sq_n ?_
      refine wc_seq ?_
      refine wc_block ?_
      refine wc_seq ?_
      refine wc_region ?_
      refine wv rfl (r_move rfl) ?_
      refine wv rfl (r_assign rfl) ?_
      refine wl_nil ?_
      refine sq_n ?_
      refine wc_seq ?_
      refine wc_draw [(0, false), (1, false), (2, false), (3, false), (4, false), (5, false), (6, false), (7, false), (8, false)] Try_mixed (by kernel_rfl) rfl (by kernel_rfl) rfl ?_
      refine ov rfl (fun w' h' => r_move rfl) ?_
      refine ov rfl (fun w' h' => r_move rfl) ?_
      refine ov rfl (fun w' h' => r_ixF Try.underlying22 sz3 rfl rfl ((hM.call h').arg (.tail _ (.head _))) ⟨by omega, by omega⟩) ?_
      refine ov rfl (fun w' h' => r_ldF0 (i := k) 0 Try.underlying3 rfl rfl ((hM.call h').arg (.tail _ (.head _))) (by omega) rfl) ?_
      refine ov rfl (fun w' h' => r_move rfl) ?_
      refine ov rfl (fun w' h' => r_move rfl) ?_
      refine ov rfl (fun w' h' => r_ixF Try.underlying22 sz3 rfl rfl ((hM.call h').arg (.head _)) ⟨by omega, by omega⟩) ?_
      refine ov rfl (fun w' h' => r_ldF0 (i := k) 0 Try.underlying3 rfl rfl ((hM.call h').arg (.head _)) (by omega) rfl) ?_
      refine ov rfl (fun w' h' => r_neq rfl rfl) ?_
      refine o_nil fun w4 hw5 => ?_
      have hM := hM.call hw5
      refine sq_n ?_
      refine wc_cond rfl (fun hc6 => ?_) (fun hc6 => ?_)
      · skip
        have hc6 := bnot_t hc6
        have hc6 := of_decide_eq_false hc6
        refine wc_seq ?_
        refine wc_region ?_
        refine wv rfl (r_assign rfl) ?_
        refine wl_nil ?_
        refine sq_n ?_
        refine wc_ret ?_
        refine bk_ret ?_
        refine sq_ret ?_
        refine lp1_ret ?_
        refine bk_ret ?_
        refine sq_ret ?_
        refine fin_ret [(.bool false)] ⟨rfl, trivial⟩ ?_
        exact ⟨vbool ((decide_eq_false (fun e => by subst e; exact absurd rfl (by assumption))).symm), hM.rel⟩
      · skip
        have hc6 := bnot_f hc6
        have hc6 := of_decide_eq_true hc6
        refine wc_skip ?_
        refine bk_n ?_
        refine sq_n ?_
        refine wc_region ?_
        refine wv rfl (r_add rfl rfl ⟨by omega, by omega⟩) ?_
        refine wv rfl (r_move rfl) ?_
        refine wl_nil ?_
        exact lp_end1 (k + 1) (by omega) ⟨rfl, rfl, rfl, rfl, trivial⟩ ⟨hM, (by omega), (take_eq_step (by omega) (by omega) (by assumption) (by assumption))⟩
    · skip
      have hc3 := of_decide_eq_false hc3
      refine wc_exit ?_
      refine sq_exit ?_
      refine lp1_exit ?_
      refine bk_here ?_
      refine sq_n ?_
      refine wc_seq ?_
      refine wc_region ?_
      refine wv rfl (r_assign rfl) ?_
      refine wl_nil ?_
      refine sq_n ?_
      refine wc_ret ?_
      refine fin_ret [(.bool true)] ⟨rfl, trivial⟩ ?_
      exact ⟨vbool ((decide_eq_true (take_eq_end (k := k) (by omega) (by omega) (by assumption))).symm), hM.rel⟩

theorem ct_spec_SignsSame (w : World) (v_a : Value) (a : List Int) (a_a : Arg w [v_a] (dFs 1 fI a)) (v_b : Value) (b : List Int) (a_b : Arg w [v_b] (dFs 1 fI b)) : Ret Try.prog 127 [v_a, v_b] w (fun u w' => u = .bool (decide (a = b)) ∧ Rel w w') := by
  refine enter Try.func127 rfl Try.ntmps127 (by kernel_rfl) rfl ?_
  have hM := St.init w
  have hM := hM.addA a_a
  have hl_a := Fs.le a_a
  have hM := hM.addA a_b
  have hl_b := Fs.le a_b
  refine wc_seq ?_
  refine wc_region ?_
  refine wv rfl (r_assign rfl) ?_
  refine wl_nil ?_
  refine sq_n ?_
  refine wc_seq ?_
  refine wc_seq ?_
  refine wc_region ?_
  refine wv rfl (r_move rfl) ?_
  refine wv rfl (r_lenF Try.underlying22 rfl (hM.arg (.tail _ (.head _)))) ?_
  refine wv rfl (r_move rfl) ?_
  refine wv rfl (r_lenF Try.underlying22 rfl (hM.arg (.head _))) ?_
  refine wv rfl (r_neq rfl rfl) ?_
  refine wl_nil ?_
  refine sq_n ?_
  refine wc_cond rfl (fun hc1 => ?_) (fun hc1 => ?_)
  · skip
    have hc1 := bnot_t hc1
    have hc1 := of_decide_eq_false hc1
    refine wc_seq ?_
    refine wc_region ?_
    refine wv rfl (r_assign rfl) ?_
    refine wl_nil ?_
    refine sq_n ?_
    refine wc_ret ?_
    refine sq_ret ?_
    refine fin_ret [(.bool false)] ⟨rfl, trivial⟩ ?_
    exact ⟨vbool ((decide_eq_false (ne_of_len (by assumption))).symm), hM.rel⟩
  · skip
    have hc1 := bnot_f hc1
    have hc1 := of_decide_eq_true hc1
    refine wc_skip ?_
    refine sq_n ?_
    refine wc_seq ?_
    refine wc_seq ?_
    refine wc_region ?_
    refine wv rfl (r_move rfl) ?_
    refine wv rfl (r_lenF Try.underlying22 rfl (hM.arg (.tail _ (.head _)))) ?_
    refine wv rfl (r_move rfl) ?_
    refine wl_nil ?_
    refine sq_n ?_
    refine wc_block ?_
    refine wc_loop1 (fun (k : Nat) => [(0, v_a), (1, v_b), (12, (.int .i64 (a.length : Int))), (13, (.int .i64 (k : Int)))]) (fun (k : Nat) w' => St (b0 w) [] [([v_b], dFs 1 fI b), ([v_a], dFs 1 fI a)] w' ∧ (k ≤ a.length) ∧ (a.take k = b.take k)) (fun (k : Nat) => a.length - k) 0 ⟨rfl, rfl, rfl, rfl, trivial⟩ ⟨hM, (by omega), (rfl)⟩ ?_
    rintro k w2 ⟨hM, hf0_0, hf0_1⟩
    refine wc_seq ?_
    refine wc_region ?_
    refine wv rfl (r_lss rfl rfl) ?_
    refine wl_nil ?_
    refine sq_n ?_
    refine wc_seq ?_
    refine wc_cond rfl (fun hc3 => ?_) (fun hc3 => ?_)
    · skip
      have hc3 := of_decide_eq_true hc3
      refine wc_skip ?_
      refine sq_n ?_
      refine wc_seq ?_
      refine wc_block ?_
      refine wc_seq ?_
      refine wc_region ?_
      refine wv rfl (r_move rfl) ?_
      refine wv rfl (r_assign rfl) ?_
      refine wl_nil ?_
      refine sq_n ?_
      refine wc_seq ?_
      refine wc_draw [(0, false), (1, false), (2, false), (3, false), (4, false), (5, false), (6, false), (7, false), (8, false)] Try_mixed (by kernel_rfl) rfl (by kernel_rfl) rfl ?_
      refine ov rfl (fun w' h' => r_move rfl) ?_
      refine ov rfl (fun w' h' => r_move rfl) ?_
      refine ov rfl (fun w' h' => r_ixF Try.underlying22 sz3 rfl rfl ((hM.call h').arg (.tail _ (.head _))) ⟨by omega, by omega⟩) ?_
      refine ov rfl (fun w' h' => r_ldF0 (i := k) 0 Try.underlying3 rfl rfl ((hM.call h').arg (.tail _ (.head _))) (by omega) rfl) ?_
      refine ov rfl (fun w' h' => r_move rfl) ?_
      refine ov rfl (fun w' h' => r_move rfl) ?_
      refine ov rfl (fun w' h' => r_ixF Try.underlying22 sz3 rfl rfl ((hM.call h').arg (.head _)) ⟨by omega, by omega⟩) ?_
      refine ov rfl (fun w' h' => r_ldF0 (i := k) 0 Try.underlying3 rfl rfl ((hM.call h').arg (.head _)) (by omega) rfl) ?_
      refine ov rfl (fun w' h' => r_neq rfl rfl) ?_
      refine o_nil fun w4 hw5 => ?_
      have hM := hM.call hw5
      refine sq_n ?_
      refine wc_cond rfl (fun hc6 => ?_) (fun hc6 => ?_)
      · skip
        have hc6 := bnot_t hc6
        have hc6 := of_decide_eq_false hc6
        refine wc_seq ?_
        refine wc_region ?_
        refine wv rfl (r_assign rfl) ?_
        refine wl_nil ?_
        refine sq_n ?_
        refine wc_ret ?_
        refine bk_ret ?_
        refine sq_ret ?_
        refine lp1_ret ?_
        refine bk_ret ?_
        refine sq_ret ?_
        refine fin_ret [(.bool false)] ⟨rfl, trivial⟩ ?_
        exact ⟨vbool ((decide_eq_false (ne_of_get (by assumption))).symm), hM.rel⟩
      · skip
        have hc6 := bnot_f hc6
        have hc6 := of_decide_eq_true hc6
        refine wc_skip ?_
        refine bk_n ?_
        refine sq_n ?_
        refine wc_region ?_
        refine wv rfl (r_add rfl rfl ⟨by omega, by omega⟩) ?_
        refine wv rfl (r_move rfl) ?_
        refine wl_nil ?_
        exact lp_end1 (k + 1) (by omega) ⟨rfl, rfl, rfl, rfl, trivial⟩ ⟨hM, (by omega), (take_eq_step (by omega) (by omega) (by assumption) (by assumption))⟩
    · skip
      have hc3 := of_decide_eq_false hc3
      refine wc_exit ?_
      refine sq_exit ?_
      refine lp1_exit ?_
      refine bk_here ?_
      refine sq_n ?_
      refine wc_seq ?_
      refine wc_region ?_
      refine wv rfl (r_assign rfl) ?_
      refine wl_nil ?_
      refine sq_n ?_
      refine wc_ret ?_
      refine fin_ret [(.bool true)] ⟨rfl, trivial⟩ ?_
      exact ⟨vbool ((decide_eq_true (take_eq_end (k := k) (by omega) (by omega) (by assumption))).symm), hM.rel⟩

theorem ct_impl_samePart (w : World) (a : PV) (a_a_0 : Arg w [a.sv.v] (dFs 1 fI a.sl)) (b : PV) (a_b_0 : Arg w [b.sv.v] (dFs 1 fI b.sl)) : Ret Try.prog 129 [.agg #[(.int .i64 a.kind), (.int .i64 a.n), a.sv.v], .agg #[(.int .i64 b.kind), (.int .i64 b.n), b.sv.v]] w (fun u w' => u = .bool (decide (a.a = b.a)) ∧ Rel w w') := by
  refine enter Try.func129 rfl Try.ntmps129 (by kernel_rfl) rfl ?_
  have hM := St.init w
  have hM := hM.addA a_a_0
  have hl_a_0 := Fs.le a_a_0
  have hM := hM.addA a_b_0
  have hl_b_0 := Fs.le a_b_0
  refine wc_seq ?_
  refine wc_region ?_
  refine w_box rfl rfl hM ?_; intro b1 w2 hM
  refine w_box rfl rfl hM ?_; intro b3 w4 hM
  refine wv rfl (r_assign rfl) ?_
  refine wl_nil ?_
  refine sq_n ?_
  refine wc_seq ?_
  refine wc_region ?_
  refine wv rfl (r_fld Try.underlying83 rfl rfl sz3 rfl) ?_
  refine wv rfl (r_ldB Try.underlying3 rfl rfl (hM.at' (.tail _ (.head _))) rfl) ?_
  refine wv rfl (r_fld Try.underlying83 rfl rfl sz3 rfl) ?_
  refine wv rfl (r_ldB Try.underlying3 rfl rfl (hM.at' (.head _)) rfl) ?_
  refine wv rfl (r_eql rfl rfl) ?_
  refine wv rfl (r_move rfl) ?_
  refine wl_mid 6 (fun _ : Unit => [(16, (.bool ((decide (a.kind = b.kind)) && (decide (a.n = b.n))))), (2, (.pointer (some ⟨b1, 0, none⟩))), (3, (.pointer (some ⟨b3, 0, none⟩)))]) (fun _ w' => St (b0 w) [oBox b3 #[(.int .i64 b.kind), (.int .i64 b.n), b.sv.v] 83, oBox b1 #[(.int .i64 a.kind), (.int .i64 a.n), a.sv.v] 83] [([b.sv.v], dFs 1 fI b.sl), ([a.sv.v], dFs 1 fI a.sl)] w') ?_ ?_
  · rcases Bool.eq_false_or_eq_true (decide (a.kind = b.kind)) with hg5 | hg5
    · skip
      have hg5p := of_decide_eq_true hg5
      refine gv rfl hg5 rfl (r_fld Try.underlying83 rfl rfl sz3 rfl) ?_
      refine gv rfl hg5 rfl (r_ldB Try.underlying3 rfl rfl (hM.at' (.tail _ (.head _))) rfl) ?_
      refine gv rfl hg5 rfl (r_fld Try.underlying83 rfl rfl sz3 rfl) ?_
      refine gv rfl hg5 rfl (r_ldB Try.underlying3 rfl rfl (hM.at' (.head _)) rfl) ?_
      refine gv rfl hg5 rfl (r_eql rfl rfl) ?_
      refine wv rfl (p_t rfl hg5 rfl) ?_
      exact mid_nil () ⟨bcongr (and_t hg5), rfl, rfl, trivial⟩ hM
    · skip
      have hg5p := of_decide_eq_false hg5
      refine gs rfl (isB_no hg5) rfl ?_
      refine gs rfl (isB_no hg5) rfl ?_
      refine gs rfl (isB_no hg5) rfl ?_
      refine gs rfl (isB_no hg5) rfl ?_
      refine gs rfl (isB_no hg5) rfl ?_
      refine wv rfl (p_f rfl hg5 rfl) ?_
      exact mid_nil () ⟨bcongr (and_f hg5), rfl, rfl, trivial⟩ hM
  rintro _ w6 hM
  refine wv rfl (r_move rfl) ?_
  refine wl_mid 6 (fun _ : Unit => [(23, (.bool (((decide (a.kind = b.kind)) && (decide (a.n = b.n))) && (decide (a.sl = b.sl)))))]) (fun _ w' => St (b0 w) [oBox b3 #[(.int .i64 b.kind), (.int .i64 b.n), b.sv.v] 83, oBox b1 #[(.int .i64 a.kind), (.int .i64 a.n), a.sv.v] 83] [([b.sv.v], dFs 1 fI b.sl), ([a.sv.v], dFs 1 fI a.sl)] w') ?_ ?_
  · rcases Bool.eq_false_or_eq_true ((decide (a.kind = b.kind)) && (decide (a.n = b.n))) with hg7 | hg7
    · skip
      refine gv rfl hg7 rfl (r_fld Try.underlying83 rfl rfl sz22 rfl) ?_
      refine gv rfl hg7 rfl (r_ldB Try.underlying22 rfl rfl (hM.at' (.tail _ (.head _))) rfl) ?_
      refine gv rfl hg7 rfl (r_fld Try.underlying83 rfl rfl sz22 rfl) ?_
      refine gv rfl hg7 rfl (r_ldB Try.underlying22 rfl rfl (hM.at' (.head _)) rfl) ?_
      refine gc rfl hg7 rfl rfl (ct_slices_Equal_int _ _ a.sl (hM.arg (.tail _ (.head _))) _ b.sl (hM.arg (.head _))) ?_
      rintro _ w8 ⟨rfl, hR9⟩
      have hM := hM.call hR9
      refine wv rfl (p_t rfl hg7 rfl) ?_
      exact mid_nil () ⟨bcongr (and_t hg7), trivial⟩ hM
    · skip
      refine gs rfl (isB_no hg7) rfl ?_
      refine gs rfl (isB_no hg7) rfl ?_
      refine gs rfl (isB_no hg7) rfl ?_
      refine gs rfl (isB_no hg7) rfl ?_
      refine gs rfl (isB_no hg7) rfl ?_
      refine wv rfl (p_f rfl hg7 rfl) ?_
      exact mid_nil () ⟨bcongr (and_f hg7), trivial⟩ hM
  rintro _ w10 hM
  refine wv rfl (r_assign rfl) ?_
  refine wl_nil ?_
  refine sq_n ?_
  refine wc_ret ?_
  refine fin_ret [(.bool (((decide (a.kind = b.kind)) && (decide (a.n = b.n))) && (decide (a.sl = b.sl))))] ⟨rfl, trivial⟩ ?_
  exact ⟨vbool (ptEq_and a b), hM.rel⟩

theorem ct_EqualFunc_part (w : World) (v_a : Value) (a : List PV) (a_a : Arg w [v_a] (dDeep 3 fP iP a)) (v_b : Value) (b : List PV) (a_b : Arg w [v_b] (dDeep 3 fP iP b)) : Ret Try.prog 128 [v_a, v_b, (.func (.func 129) #[] #[])] w (fun u w' => u = .bool (decide (pa a = pa b)) ∧ Rel w w') := by
  refine enter Try.func128 rfl Try.ntmps128 (by kernel_rfl) rfl ?_
  have hM := St.init w
  have hM := hM.addA a_a
  have hl_a := Fs.le (Deep.fl a_a)
  have hM := hM.addA a_b
  have hl_b := Fs.le (Deep.fl a_b)
  refine wc_seq ?_
  refine wc_region ?_
  refine wv rfl (r_assign rfl) ?_
  refine wl_nil ?_
  refine sq_n ?_
  refine wc_seq ?_
  refine wc_seq ?_
  refine wc_region ?_
  refine wv rfl (r_move rfl) ?_
  refine wv rfl (r_lenF Try.underlying41 rfl (Deep.fl (hM.arg (.tail _ (.head _))))) ?_
  refine wv rfl (r_move rfl) ?_
  refine wv rfl (r_lenF Try.underlying41 rfl (Deep.fl (hM.arg (.head _)))) ?_
  refine wv rfl (r_neq rfl rfl) ?_
  refine wl_nil ?_
  refine sq_n ?_
  refine wc_cond rfl (fun hc1 => ?_) (fun hc1 => ?_)
  · skip
    have hc1 := bnot_t hc1
    have hc1 := of_decide_eq_false hc1
    refine wc_seq ?_
    refine wc_region ?_
    refine wv rfl (r_assign rfl) ?_
    refine wl_nil ?_
    refine sq_n ?_
    refine wc_ret ?_
    refine sq_ret ?_
    refine fin_ret [(.bool false)] ⟨rfl, trivial⟩ ?_
    exact ⟨vbool (pa_ne_len (by assumption)), hM.rel⟩
  · skip
    have hc1 := bnot_f hc1
    have hc1 := of_decide_eq_true hc1
    refine wc_skip ?_
    refine sq_n ?_
    refine wc_seq ?_
    refine wc_seq ?_
    refine wc_region ?_
    refine wv rfl (r_move rfl) ?_
    refine wv rfl (r_lenF Try.underlying41 rfl (Deep.fl (hM.arg (.tail _ (.head _))))) ?_
    refine wv rfl (r_move rfl) ?_
    refine wl_nil ?_
    refine sq_n ?_
    refine wc_block ?_
    refine wc_loop1 (fun (k : Nat) => [(1, v_b), (2, (.func (.func 129) #[] #[])), (15, v_a), (16, (.int .i64 (a.length : Int))), (17, (.int .i64 (k : Int)))]) (fun (k : Nat) w' => St (b0 w) [] [([v_b], dDeep 3 fP iP b), ([v_a], dDeep 3 fP iP a)] w' ∧ (k ≤ a.length) ∧ (pa (a.take k) = pa (b.take k))) (fun (k : Nat) => a.length - k) 0 ⟨rfl, rfl, rfl, rfl, rfl, trivial⟩ ⟨hM, (by omega), (rfl)⟩ ?_
    rintro k w2 ⟨hM, hf0_0, hf0_1⟩
    refine wc_seq ?_
    refine wc_region ?_
    refine wv rfl (r_lss rfl rfl) ?_
    refine wl_nil ?_
    refine sq_n ?_
    refine wc_seq ?_
    refine wc_cond rfl (fun hc3 => ?_) (fun hc3 => ?_)
    · skip
      have hc3 := of_decide_eq_true hc3
      refine wc_skip ?_
      refine sq_n ?_
      refine wc_seq ?_
      refine wc_block ?_
      refine wc_seq ?_
      refine wc_region ?_
      refine wv rfl (r_move rfl) ?_
      refine wv rfl (r_ixF Try.underlying41 sz83 rfl rfl (Deep.fl (hM.arg (.tail _ (.head _)))) ⟨by omega, by omega⟩) ?_
      have hM := hM.more (Deep.elem (hM.see (.tail _ (.head _))) (i := k) pv0 (by omega) (r := ([(a.getD k pv0).sv.v], dFs 1 fI ((a.getD k pv0).sl))) (.head _))
      refine wv rfl (r_ldFS (i := k) pv0 Try.underlying83 sz83 (fun _ => rfl) rfl (Deep.fl (hM.arg (.tail _ (.tail _ (.head _))))) (by omega)) ?_
      refine w_alloc rfl sz83 hM ?_; intro b4 w5 hM
      refine wv rfl (r_assign rfl) ?_
      refine w_stB sz83 rfl rfl rfl hM rfl rfl ?_; intro w6 hM
      refine wl_nil ?_
      refine sq_n ?_
      refine wc_seq ?_
      refine wc_region ?_
      refine wv rfl (r_move rfl) ?_
      refine wv rfl (r_move rfl) ?_
      refine wv rfl (r_ixF Try.underlying41 sz83 rfl rfl (Deep.fl (hM.arg (.tail _ (.head _)))) ⟨by omega, by omega⟩) ?_
      have hM := hM.more (Deep.elem (hM.see (.tail _ (.head _))) (i := k) pv0 (by omega) (r := ([(b.getD k pv0).sv.v], dFs 1 fI ((b.getD k pv0).sl))) (.head _))
      refine wv rfl (r_ldFS (i := k) pv0 Try.underlying83 sz83 (fun _ => rfl) rfl (Deep.fl (hM.arg (.tail _ (.tail _ (.head _))))) (by omega)) ?_
      refine w_alloc rfl sz83 hM ?_; intro b7 w8 hM
      refine w_stB sz83 rfl rfl rfl hM rfl rfl ?_; intro w9 hM
      refine wl_nil ?_
      refine sq_n ?_
      refine wc_seq ?_
      refine wc_region ?_
      refine wv rfl (r_move rfl) ?_
      refine wv rfl (r_ldBS Try.underlying83 sz83 rfl (cs := [(.int .i64 ((a.getD k pv0).kind)), (.int .i64 ((a.getD k pv0).n)), (a.getD k pv0).sv.v]) rfl (hM.at' (.tail _ (.head _)))) ?_
      refine wv rfl (r_ldBS Try.underlying83 sz83 rfl (cs := [(.int .i64 ((b.getD k pv0).kind)), (.int .i64 ((b.getD k pv0).n)), (b.getD k pv0).sv.v]) rfl (hM.at' (.head _))) ?_
      refine w_callv (cap := []) rfl rfl rfl (ct_impl_samePart _ (a.getD k pv0 : PV) (hM.arg (.tail _ (.head _))) (b.getD k pv0 : PV) (hM.arg (.head _))) ?_
      rintro _ w10 ⟨rfl, hR11⟩
      have hM := hM.call hR11
      refine wv rfl (r_not rfl) ?_
      refine wl_nil ?_
      refine sq_n ?_
      refine wc_cond rfl (fun hc12 => ?_) (fun hc12 => ?_)
      · skip
        have hc12 := bnot_t hc12
        have hc12 := of_decide_eq_false hc12
        refine wc_seq ?_
        refine wc_region ?_
        refine wv rfl (r_assign rfl) ?_
        refine wl_nil ?_
        refine sq_n ?_
        refine wc_ret ?_
        refine bk_ret ?_
        refine sq_ret ?_
        refine lp1_ret ?_
        refine bk_ret ?_
        refine sq_ret ?_
        refine fin_ret [(.bool false)] ⟨rfl, trivial⟩ ?_
        exact ⟨vbool (pa_ne_get (k := k) (by assumption)), hM.rel⟩
      · skip
        have hc12 := bnot_f hc12
        have hc12 := of_decide_eq_true hc12
        refine wc_skip ?_
        refine bk_n ?_
        refine sq_n ?_
        refine wc_region ?_
        refine wv rfl (r_add rfl rfl ⟨by omega, by omega⟩) ?_
        refine wv rfl (r_move rfl) ?_
        refine wl_nil ?_
        have hM := hM.drop
        have hM := hM.drop
        have hM := hM.lessR
        have hM := hM.lessR
        exact lp_end1 (k + 1) (by omega) ⟨rfl, rfl, rfl, rfl, rfl, trivial⟩ ⟨hM, (by omega), (pa_eq_step (by omega) (by omega) hf0_1 (by assumption))⟩
    · skip
      have hc3 := of_decide_eq_false hc3
      refine wc_exit ?_
      refine sq_exit ?_
      refine lp1_exit ?_
      refine bk_here ?_
      refine sq_n ?_
      refine wc_seq ?_
      refine wc_region ?_
      refine wv rfl (r_assign rfl) ?_
      refine wl_nil ?_
      refine sq_n ?_
      refine wc_ret ?_
      refine fin_ret [(.bool true)] ⟨rfl, trivial⟩ ?_
      exact ⟨vbool (pa_eq_end (k := k) (by omega) (by omega) hf0_1), hM.rel⟩

theorem ct_impl_OpSame (w : World) (v_a : Value) (a : List PV) (a_a : Arg w [v_a] (dDeep 3 fP iP a)) (v_b : Value) (b : List PV) (a_b : Arg w [v_b] (dDeep 3 fP iP b)) : Ret Try.prog 78 [v_a, v_b] w (fun u w' => u = .bool (decide (pa a = pa b)) ∧ Rel w w') := by
  refine enter Try.func78 rfl Try.ntmps78 (by kernel_rfl) rfl ?_
  have hM := St.init w
  have hM := hM.addA a_a
  have hl_a := Fs.le (Deep.fl a_a)
  have hM := hM.addA a_b
  have hl_b := Fs.le (Deep.fl a_b)
  refine wc_seq ?_
  refine wc_region ?_
  refine wv rfl (r_assign rfl) ?_
  refine wl_nil ?_
  refine sq_n ?_
  refine wc_seq ?_
  refine wc_region ?_
  refine wv rfl (r_move rfl) ?_
  refine wv rfl (r_move rfl) ?_
  refine w_call rfl rfl (ct_EqualFunc_part _ _ a (hM.arg (.tail _ (.head _))) _ b (hM.arg (.head _))) ?_
  rintro _ w1 ⟨rfl, hR2⟩
  have hM := hM.call hR2
  refine wv rfl (r_assign rfl) ?_
  refine wl_nil ?_
  refine sq_n ?_
  refine wc_ret ?_
  refine fin_ret [(.bool (decide (pa a = pa b)))] ⟨rfl, trivial⟩ ?_
  exact ⟨vbool (by simp), hM.rel⟩

theorem ct_spec_OpSame (w : World) (v_a : Value) (a : List PV) (a_a : Arg w [v_a] (dDeep 3 fP iP a)) (v_b : Value) (b : List PV) (a_b : Arg w [v_b] (dDeep 3 fP iP b)) : Ret Try.prog 75 [v_a, v_b] w (fun u w' => u = .bool (decide (pa a = pa b)) ∧ Rel w w') := by
  refine enter Try.func75 rfl Try.ntmps75 (by kernel_rfl) rfl ?_
  have hM := St.init w
  have hM := hM.addA a_a
  have hl_a := Fs.le (Deep.fl a_a)
  have hM := hM.addA a_b
  have hl_b := Fs.le (Deep.fl a_b)
  refine wc_seq ?_
  refine wc_region ?_
  refine wv rfl (r_assign rfl) ?_
  refine wl_nil ?_
  refine sq_n ?_
  refine wc_seq ?_
  refine wc_seq ?_
  refine wc_region ?_
  refine wv rfl (r_move rfl) ?_
  refine wv rfl (r_lenF Try.underlying41 rfl (Deep.fl (hM.arg (.tail _ (.head _))))) ?_
  refine wv rfl (r_move rfl) ?_
  refine wv rfl (r_lenF Try.underlying41 rfl (Deep.fl (hM.arg (.head _)))) ?_
  refine wv rfl (r_neq rfl rfl) ?_
  refine wl_nil ?_
  refine sq_n ?_
  refine wc_cond rfl (fun hc1 => ?_) (fun hc1 => ?_)
  · skip
    have hc1 := bnot_t hc1
    have hc1 := of_decide_eq_false hc1
    refine wc_seq ?_
    refine wc_region ?_
    refine wv rfl (r_assign rfl) ?_
    refine wl_nil ?_
    refine sq_n ?_
    refine wc_ret ?_
    refine sq_ret ?_
    refine fin_ret [(.bool false)] ⟨rfl, trivial⟩ ?_
    exact ⟨vbool (pa_ne_len (by assumption)), hM.rel⟩
  · skip
    have hc1 := bnot_f hc1
    have hc1 := of_decide_eq_true hc1
    refine wc_skip ?_
    refine sq_n ?_
    refine wc_seq ?_
    refine wc_seq ?_
    refine wc_region ?_
    refine wv rfl (r_move rfl) ?_
    refine wv rfl (r_lenF Try.underlying41 rfl (Deep.fl (hM.arg (.tail _ (.head _))))) ?_
    refine wv rfl (r_move rfl) ?_
    refine wl_nil ?_
    refine sq_n ?_
    refine wc_block ?_
    refine wc_loop1 (fun (k : Nat) => [(1, v_b), (12, v_a), (13, (.int .i64 (a.length : Int))), (14, (.int .i64 (k : Int)))]) (fun (k : Nat) w' => St (b0 w) [] [([v_b], dDeep 3 fP iP b), ([v_a], dDeep 3 fP iP a)] w' ∧ (k ≤ a.length) ∧ (pa (a.take k) = pa (b.take k))) (fun (k : Nat) => a.length - k) 0 ⟨rfl, rfl, rfl, rfl, trivial⟩ ⟨hM, (by omega), (rfl)⟩ ?_
    rintro k w2 ⟨hM, hf0_0, hf0_1⟩
    refine wc_seq ?_
    refine wc_region ?_
    refine wv rfl (r_lss rfl rfl) ?_
    refine wl_nil ?_
    refine sq_n ?_
    refine wc_seq ?_
    refine wc_cond rfl (fun hc3 => ?_) (fun hc3 => ?_)
    · skip
      have hc3 := of_decide_eq_true hc3
      refine wc_skip ?_
      refine sq_n ?_
      refine wc_seq ?_
      refine wc_block ?_
      refine wc_seq ?_
      refine wc_region ?_
      refine wv rfl (r_move rfl) ?_
      refine wv rfl (r_ixF Try.underlying41 sz83 rfl rfl (Deep.fl (hM.arg (.tail _ (.head _)))) ⟨by omega, by omega⟩) ?_
      have hM := hM.more (Deep.elem (hM.see (.tail _ (.head _))) (i := k) pv0 (by omega) (r := ([(a.getD k pv0).sv.v], dFs 1 fI ((a.getD k pv0).sl))) (.head _))
      refine wv rfl (r_ldFS (i := k) pv0 Try.underlying83 sz83 (fun _ => rfl) rfl (Deep.fl (hM.arg (.tail _ (.tail _ (.head _))))) (by omega)) ?_
      refine w_alloc rfl sz83 hM ?_; intro b4 w5 hM
      refine wv rfl (r_assign rfl) ?_
      refine w_stB sz83 rfl rfl rfl hM rfl rfl ?_; intro w6 hM
      refine wl_nil ?_
      refine sq_n ?_
      refine wc_seq ?_
      refine wc_draw [(0, false), (1, false), (2, false), (3, false), (4, false), (5, false), (6, false), (7, false), (8, false), (9, false), (10, false), (11, false), (12, false), (13, false), (14, false), (15, false), (16, false), (17, false), (18, false), (19, false), (20, false), (21, false), (22, false), (23, false), (24, false), (25, false), (26, false), (27, false), (28, false)] Try_mixed (by kernel_rfl) rfl (by kernel_rfl) rfl ?_
      refine ov rfl (fun w' h' => r_fld Try.underlying83 rfl rfl sz3 rfl) ?_
      refine ov rfl (fun w' h' => r_ldB Try.underlying3 rfl rfl ((hM.call h').at' (.head _)) rfl) ?_
      refine ov rfl (fun w' h' => r_move rfl) ?_
      refine ov rfl (fun w' h' => r_move rfl) ?_
      refine ov rfl (fun w' h' => r_ixF Try.underlying41 sz83 rfl rfl (Deep.fl ((hM.call h').arg (.tail _ (.head _)))) ⟨by omega, by omega⟩) ?_
      refine ov rfl (fun w' h' => r_fldF (i := k) Try.underlying83 rfl rfl sz3 rfl (Deep.fl ((hM.call h').arg (.tail _ (.head _)))) (by omega)) ?_
      refine ov rfl (fun w' h' => r_ldF (i := k) (j := 0) pv0 Try.underlying3 rfl rfl (Deep.fl ((hM.call h').arg (.tail _ (.head _)))) (by omega) rfl) ?_
      refine ov rfl (fun w' h' => r_neq rfl rfl) ?_
      refine ov rfl (fun w' h' => r_move rfl) ?_
      refine wo_mid 9 [(36, (.bool ((!(decide (((a.getD k pv0).kind) = ((b.getD k pv0).kind)))) || (!(decide (((a.getD k pv0).n) = ((b.getD k pv0).n))))))), (1, v_b), (5, (.int .i64 (k : Int))), (6, (.pointer (some ⟨b4, 0, none⟩))), (12, v_a), (13, (.int .i64 (a.length : Int))), (14, (.int .i64 (k : Int)))] ?_ ?_
      · rcases Bool.eq_false_or_eq_true (!(decide (((a.getD k pv0).kind) = ((b.getD k pv0).kind)))) with hg7 | hg7
        · skip
          refine ogs rfl (isB_no hg7) rfl ?_
          refine ogs rfl (isB_no hg7) rfl ?_
          refine ogs rfl (isB_no hg7) rfl ?_
          refine ogs rfl (isB_no hg7) rfl ?_
          refine ogs rfl (isB_no hg7) rfl ?_
          refine ogs rfl (isB_no hg7) rfl ?_
          refine ogs rfl (isB_no hg7) rfl ?_
          refine ogs rfl (isB_no hg7) rfl ?_
          refine ov rfl (fun w' h' => p_t rfl hg7 rfl) ?_
          exact mid_onil ⟨bcongr (or_t hg7), rfl, rfl, rfl, rfl, rfl, rfl, trivial⟩
        · skip
          refine ogv rfl hg7 rfl (fun w' h' => r_fld Try.underlying83 rfl rfl sz3 rfl) ?_
          refine ogv rfl hg7 rfl (fun w' h' => r_ldB Try.underlying3 rfl rfl ((hM.call h').at' (.head _)) rfl) ?_
          refine ogv rfl hg7 rfl (fun w' h' => r_move rfl) ?_
          refine ogv rfl hg7 rfl (fun w' h' => r_move rfl) ?_
          refine ogv rfl hg7 rfl (fun w' h' => r_ixF Try.underlying41 sz83 rfl rfl (Deep.fl ((hM.call h').arg (.tail _ (.head _)))) ⟨by omega, by omega⟩) ?_
          refine ogv rfl hg7 rfl (fun w' h' => r_fldF (i := k) Try.underlying83 rfl rfl sz3 rfl (Deep.fl ((hM.call h').arg (.tail _ (.head _)))) (by omega)) ?_
          refine ogv rfl hg7 rfl (fun w' h' => r_ldF (i := k) (j := 1) pv0 Try.underlying3 rfl rfl (Deep.fl ((hM.call h').arg (.tail _ (.head _)))) (by omega) rfl) ?_
          refine ogv rfl hg7 rfl (fun w' h' => r_neq rfl rfl) ?_
          refine ov rfl (fun w' h' => p_f rfl hg7 rfl) ?_
          exact mid_onil ⟨bcongr (or_f hg7), rfl, rfl, rfl, rfl, rfl, rfl, trivial⟩
      refine ov rfl (fun w' h' => r_move rfl) ?_
      refine wo_mid 10 [(47, (.bool (((!(decide (((a.getD k pv0).kind) = ((b.getD k pv0).kind)))) || (!(decide (((a.getD k pv0).n) = ((b.getD k pv0).n))))) || (!(decide (((a.getD k pv0).sl) = ((b.getD k pv0).sl))))))), (1, v_b), (12, v_a), (13, (.int .i64 (a.length : Int))), (14, (.int .i64 (k : Int)))] ?_ ?_
      · rcases Bool.eq_false_or_eq_true ((!(decide (((a.getD k pv0).kind) = ((b.getD k pv0).kind)))) || (!(decide (((a.getD k pv0).n) = ((b.getD k pv0).n))))) with hg8 | hg8
        · skip
          refine ogs rfl (isB_no hg8) rfl ?_
          refine ogs rfl (isB_no hg8) rfl ?_
          refine ogs rfl (isB_no hg8) rfl ?_
          refine ogs rfl (isB_no hg8) rfl ?_
          refine ogs rfl (isB_no hg8) rfl ?_
          refine ogs rfl (isB_no hg8) rfl ?_
          refine ogs rfl (isB_no hg8) rfl ?_
          refine ogs rfl (isB_no hg8) rfl ?_
          refine ogs rfl (isB_no hg8) rfl ?_
          refine ov rfl (fun w' h' => p_t rfl hg8 rfl) ?_
          exact mid_onil ⟨bcongr (or_t hg8), rfl, rfl, rfl, rfl, trivial⟩
        · skip
          refine ogv rfl hg8 rfl (fun w' h' => r_fld Try.underlying83 rfl rfl sz22 rfl) ?_
          refine ogv rfl hg8 rfl (fun w' h' => r_ldB Try.underlying22 rfl rfl ((hM.call h').at' (.head _)) rfl) ?_
          refine ogv rfl hg8 rfl (fun w' h' => r_move rfl) ?_
          refine ogv rfl hg8 rfl (fun w' h' => r_move rfl) ?_
          refine ogv rfl hg8 rfl (fun w' h' => r_ixF Try.underlying41 sz83 rfl rfl (Deep.fl ((hM.call h').arg (.tail _ (.head _)))) ⟨by omega, by omega⟩) ?_
          refine ogv rfl hg8 rfl (fun w' h' => r_fldF (i := k) Try.underlying83 rfl rfl sz22 rfl (Deep.fl ((hM.call h').arg (.tail _ (.head _)))) (by omega)) ?_
          have hM := hM.more (Deep.elem (hM.see (.tail _ (.head _))) (i := k) pv0 (by omega) (r := ([(b.getD k pv0).sv.v], dFs 1 fI ((b.getD k pv0).sl))) (.head _))
          refine ogv rfl hg8 rfl (fun w' h' => r_ldF (i := k) (j := 2) pv0 Try.underlying22 rfl rfl (Deep.fl ((hM.call h').arg (.tail _ (.tail _ (.head _))))) (by omega) rfl) ?_
          refine ogc rfl hg8 rfl rfl (fun w' h' => ct_spec_SignsSame _ _ ((a.getD k pv0).sl) ((hM.call h').arg (.tail _ (.head _))) _ ((b.getD k pv0).sl) ((hM.call h').arg (.head _))) ?_
          refine ogv rfl hg8 rfl (fun w' h' => r_not rfl) ?_
          refine ov rfl (fun w' h' => p_f rfl hg8 rfl) ?_
          exact mid_onil ⟨bcongr (or_f hg8), rfl, rfl, rfl, rfl, trivial⟩
      refine o_nil fun w9 hw10 => ?_
      have hM := hM.call hw10
      refine sq_n ?_
      refine wc_cond rfl (fun hc11 => ?_) (fun hc11 => ?_)
      · skip
        rw [ptNe_or] at hc11
        have hne := of_decide_eq_false (bnot_t hc11)
        refine wc_seq ?_
        refine wc_region ?_
        refine wv rfl (r_assign rfl) ?_
        refine wl_nil ?_
        refine sq_n ?_
        refine wc_ret ?_
        refine bk_ret ?_
        refine sq_ret ?_
        refine lp1_ret ?_
        refine bk_ret ?_
        refine sq_ret ?_
        refine fin_ret [(.bool false)] ⟨rfl, trivial⟩ ?_
        exact ⟨vbool (pa_ne_get (k := k) (by assumption)), hM.rel⟩
      · skip
        have hc110 := hc11
        obtain ⟨hc11a, hc11b⟩ := (Bool.or_eq_false_iff).1 hc11
        obtain ⟨hc11aa, hc11ab⟩ := (Bool.or_eq_false_iff).1 hc11a
        have hc11aa := bnot_f hc11aa
        have hc11aa := of_decide_eq_true hc11aa
        have hc11ab := bnot_f hc11ab
        have hc11ab := of_decide_eq_true hc11ab
        have hc11b := bnot_f hc11b
        have hc11b := of_decide_eq_true hc11b
        have hyes := of_decide_eq_true (bnot_f ((ptNe_or (a := a.getD k pv0) (b := b.getD k pv0)).symm.trans hc110))
        refine wc_skip ?_
        refine bk_n ?_
        refine sq_n ?_
        refine wc_region ?_
        refine wv rfl (r_add rfl rfl ⟨by omega, by omega⟩) ?_
        refine wv rfl (r_move rfl) ?_
        refine wl_nil ?_
        have hM := hM.drop
        have hM := hM.lessR
        exact lp_end1 (k + 1) (by omega) ⟨rfl, rfl, rfl, rfl, trivial⟩ ⟨hM, (by omega), (pa_eq_step (by omega) (by omega) hf0_1 (by assumption))⟩
    · skip
      have hc3 := of_decide_eq_false hc3
      refine wc_exit ?_
      refine sq_exit ?_
      refine lp1_exit ?_
      refine bk_here ?_
      refine sq_n ?_
      refine wc_seq ?_
      refine wc_region ?_
      refine wv rfl (r_assign rfl) ?_
      refine wl_nil ?_
      refine sq_n ?_
      refine wc_ret ?_
      refine fin_ret [(.bool true)] ⟨rfl, trivial⟩ ?_
      exact ⟨vbool (pa_eq_end (k := k) (by omega) (by omega) hf0_1), hM.rel⟩

end Go.Proofs.Ythnnhoabdhhkaaa
