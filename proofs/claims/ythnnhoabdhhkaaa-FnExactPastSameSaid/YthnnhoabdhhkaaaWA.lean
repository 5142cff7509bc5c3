/- Walks of functions of this program (printed by a program of ours, by the rules of the layer). No condition. -/
import Derived.Test.YthnnhoabdhhkaaaTy
namespace Go.Proofs.Ythnnhoabdhhkaaa
open Go.RowKit

theorem ct_impl_within (w : World) (n : Int) (lo : Int) (hi : Int) : Ret Try.prog 113 [.int .i64 n, .int .i64 lo, .int .i64 hi] w (fun u w' => u = .bool (within n lo hi) ∧ Rel w w') := by
  refine enter Try.func113 rfl Try.ntmps113 (by kernel_rfl) rfl ?_
  have hM := St.init w
  refine wc_seq ?_
  refine wc_region ?_
  refine wv rfl (r_assign rfl) ?_
  refine wl_nil ?_
  refine sq_n ?_
  refine wc_seq ?_
  refine wc_region ?_
  refine wv rfl (r_move rfl) ?_
  refine wv rfl (r_move rfl) ?_
  refine wv rfl (r_geq rfl rfl) ?_
  refine wv rfl (r_move rfl) ?_
  refine wl_mid 4 (fun _ : Unit => [(14, (.bool ((decide (lo ≤ n)) && (decide (n ≤ hi)))))]) (fun _ w' => St (b0 w) [] [] w') ?_ ?_
  · rcases Bool.eq_false_or_eq_true (decide (lo ≤ n)) with hg1 | hg1
    · skip
      have hg1p := of_decide_eq_true hg1
      refine gv rfl hg1 rfl (r_move rfl) ?_
      refine gv rfl hg1 rfl (r_move rfl) ?_
      refine gv rfl hg1 rfl (r_leq rfl rfl) ?_
      refine wv rfl (p_t rfl hg1 rfl) ?_
      exact mid_nil () ⟨bcongr (and_t hg1), trivial⟩ hM
    · skip
      have hg1p := of_decide_eq_false hg1
      refine gs rfl (isB_no hg1) rfl ?_
      refine gs rfl (isB_no hg1) rfl ?_
      refine gs rfl (isB_no hg1) rfl ?_
      refine wv rfl (p_f rfl hg1 rfl) ?_
      exact mid_nil () ⟨bcongr (and_f hg1), trivial⟩ hM
  rintro _ w2 hM
  refine wv rfl (r_assign rfl) ?_
  refine wl_nil ?_
  refine sq_n ?_
  refine wc_ret ?_
  refine fin_ret [(.bool ((decide (lo ≤ n)) && (decide (n ≤ hi))))] ⟨rfl, trivial⟩ ?_
  exact ⟨vbool (by simp [within]), hM.rel⟩

theorem ct_spec_l01In (w : World) (n : Int) (lo : Int) (hi : Int) : Ret Try.prog 99 [.int .i64 n, .int .i64 lo, .int .i64 hi] w (fun u w' => u = .bool (within n lo hi) ∧ Rel w w') := by
  refine enter Try.func99 rfl Try.ntmps99 (by kernel_rfl) rfl ?_
  have hM := St.init w
  refine wc_seq ?_
  refine wc_region ?_
  refine wv rfl (r_assign rfl) ?_
  refine wl_nil ?_
  refine sq_n ?_
  refine wc_seq ?_
  refine wc_region ?_
  refine wv rfl (r_move rfl) ?_
  refine wv rfl (r_move rfl) ?_
  refine wv rfl (r_geq rfl rfl) ?_
  refine wv rfl (r_move rfl) ?_
  refine wl_mid 4 (fun _ : Unit => [(14, (.bool ((decide (lo ≤ n)) && (decide (n ≤ hi)))))]) (fun _ w' => St (b0 w) [] [] w') ?_ ?_
  · rcases Bool.eq_false_or_eq_true (decide (lo ≤ n)) with hg1 | hg1
    · skip
      have hg1p := of_decide_eq_true hg1
      refine gv rfl hg1 rfl (r_move rfl) ?_
      refine gv rfl hg1 rfl (r_move rfl) ?_
      refine gv rfl hg1 rfl (r_leq rfl rfl) ?_
      refine wv rfl (p_t rfl hg1 rfl) ?_
      exact mid_nil () ⟨bcongr (and_t hg1), trivial⟩ hM
    · skip
      have hg1p := of_decide_eq_false hg1
      refine gs rfl (isB_no hg1) rfl ?_
      refine gs rfl (isB_no hg1) rfl ?_
      refine gs rfl (isB_no hg1) rfl ?_
      refine wv rfl (p_f rfl hg1 rfl) ?_
      exact mid_nil () ⟨bcongr (and_f hg1), trivial⟩ hM
  rintro _ w2 hM
  refine wv rfl (r_assign rfl) ?_
  refine wl_nil ?_
  refine sq_n ?_
  refine wc_ret ?_
  refine fin_ret [(.bool ((decide (lo ≤ n)) && (decide (n ≤ hi))))] ⟨rfl, trivial⟩ ?_
  exact ⟨vbool (by simp [within]), hM.rel⟩

theorem ct_impl_SignOk (w : World) (n : Int) : Ret Try.prog 157 [.int .i64 n] w (fun u w' => u = .bool (signOk n) ∧ Rel w w') := by
  refine enter Try.func157 rfl Try.ntmps157 (by kernel_rfl) rfl ?_
  have hM := St.init w
  refine wc_seq ?_
  refine wc_region ?_
  refine wv rfl (r_assign rfl) ?_
  refine wl_nil ?_
  refine sq_n ?_
  refine wc_seq ?_
  refine wc_region ?_
  refine wv rfl (r_move rfl) ?_
  refine w_call rfl rfl (ct_impl_within _ n (0 : Int) (1114111 : Int)) ?_
  rintro _ w1 ⟨rfl, hR2⟩
  have hM := hM.call hR2
  refine wv rfl (r_move rfl) ?_
  refine wl_mid 4 (fun _ : Unit => [(9, (.bool ((within n 0 1114111) && (!(within n 55296 57343)))))]) (fun _ w' => St (b0 w) [] [] w') ?_ ?_
  · rcases Bool.eq_false_or_eq_true (within n 0 1114111) with hg3 | hg3
    · skip
      refine gv rfl hg3 rfl (r_move rfl) ?_
      refine gc rfl hg3 rfl rfl (ct_impl_within _ n (55296 : Int) (57343 : Int)) ?_
      rintro _ w4 ⟨rfl, hR5⟩
      have hM := hM.call hR5
      refine gv rfl hg3 rfl (r_not rfl) ?_
      refine wv rfl (p_t rfl hg3 rfl) ?_
      exact mid_nil () ⟨bcongr (and_t hg3), trivial⟩ hM
    · skip
      refine gs rfl (isB_no hg3) rfl ?_
      refine gs rfl (isB_no hg3) rfl ?_
      refine gs rfl (isB_no hg3) rfl ?_
      refine wv rfl (p_f rfl hg3 rfl) ?_
      exact mid_nil () ⟨bcongr (and_f hg3), trivial⟩ hM
  rintro _ w6 hM
  refine wv rfl (r_assign rfl) ?_
  refine wl_nil ?_
  refine sq_n ?_
  refine wc_ret ?_
  refine fin_ret [(.bool ((within n 0 1114111) && (!(within n 55296 57343))))] ⟨rfl, trivial⟩ ?_
  exact ⟨vbool (by simp [signOk]), hM.rel⟩

theorem ct_impl_SignsOk (w : World) (v_l : Value) (l : List Int) (a_l : Arg w [v_l] (dFs 1 fI l)) : Ret Try.prog 141 [v_l] w (fun u w' => u = .bool (signsOk l) ∧ Rel w w') := by
  refine enter Try.func141 rfl Try.ntmps141 (by kernel_rfl) rfl ?_
  have hM := St.init w
  have hM := hM.addA a_l
  have hl_l := Fs.le a_l
  refine wc_seq ?_
  refine wc_region ?_
  refine wv rfl (r_assign rfl) ?_
  refine wl_nil ?_
  refine sq_n ?_
  refine wc_seq ?_
  refine wc_seq ?_
  refine wc_region ?_
  refine wv rfl (r_move rfl) ?_
  refine wv rfl (r_lenF Try.underlying22 rfl (hM.arg (.head _))) ?_
  refine wv rfl (r_move rfl) ?_
  refine wl_nil ?_
  refine sq_n ?_
  refine wc_block ?_
  refine wc_loop1 (fun (k : Nat) => [(5, v_l), (6, (.int .i64 (l.length : Int))), (7, (.int .i64 (k : Int)))]) (fun (k : Nat) w' => St (b0 w) [] [([v_l], dFs 1 fI l)] w' ∧ (k ≤ l.length) ∧ ((l.take k).all signOk = true)) (fun (k : Nat) => l.length - k) 0 ⟨rfl, rfl, rfl, trivial⟩ ⟨hM, (by omega), (by simp)⟩ ?_
  rintro k w1 ⟨hM, hf0_0, hf0_1⟩
  refine wc_seq ?_
  refine wc_region ?_
  refine wv rfl (r_lss rfl rfl) ?_
  refine wl_nil ?_
  refine sq_n ?_
  refine wc_seq ?_
  refine wc_cond rfl (fun hc2 => ?_) (fun hc2 => ?_)
  · skip
    have hc2 := of_decide_eq_true hc2
    refine wc_skip ?_
    refine sq_n ?_
    refine wc_seq ?_
    refine wc_block ?_
    refine wc_seq ?_
    refine wc_region ?_
    refine wv rfl (r_ixF Try.underlying22 sz3 rfl rfl (hM.arg (.head _)) ⟨by omega, by omega⟩) ?_
    refine wv rfl (r_ldF0 (i := k) 0 Try.underlying3 rfl rfl (hM.arg (.head _)) (by omega) rfl) ?_
    refine wv rfl (r_assign rfl) ?_
    refine wl_nil ?_
    refine sq_n ?_
    refine wc_seq ?_
    refine wc_region ?_
    refine wv rfl (r_move rfl) ?_
    refine w_call rfl rfl (ct_impl_SignOk _ (l.getD k 0)) ?_
    rintro _ w3 ⟨rfl, hR4⟩
    have hM := hM.call hR4
    refine wv rfl (r_not rfl) ?_
    refine wl_nil ?_
    refine sq_n ?_
    refine wc_cond rfl (fun hc5 => ?_) (fun hc5 => ?_)
    · skip
      have hc5 := bnot_t hc5
      refine wc_seq ?_
      refine wc_region ?_
      refine wv rfl (r_assign rfl) ?_
      refine wl_nil ?_
      refine sq_n ?_
      refine wc_ret ?_
      refine bk_ret ?_
      refine sq_ret ?_
      refine lp1_ret ?_
      refine bk_ret ?_
      refine sq_ret ?_
      refine fin_ret [(.bool false)] ⟨rfl, trivial⟩ ?_
      exact ⟨vbool ((all_false l k 0 signOk (by omega) (by assumption)).symm), hM.rel⟩
    · skip
      have hc5 := bnot_f hc5
      refine wc_skip ?_
      refine bk_n ?_
      refine sq_n ?_
      refine wc_region ?_
      refine wv rfl (r_add rfl rfl ⟨by omega, by omega⟩) ?_
      refine wv rfl (r_move rfl) ?_
      refine wl_nil ?_
      exact lp_end1 (k + 1) (by omega) ⟨rfl, rfl, rfl, trivial⟩ ⟨hM, (by omega), (by rw [all_take _ _ _ 0 (by omega), hf0_1, Bool.true_and]; assumption)⟩
  · skip
    have hc2 := of_decide_eq_false hc2
    refine wc_exit ?_
    refine sq_exit ?_
    refine lp1_exit ?_
    refine bk_here ?_
    refine sq_n ?_
    refine wc_seq ?_
    refine wc_region ?_
    refine wv rfl (r_assign rfl) ?_
    refine wl_nil ?_
    refine sq_n ?_
    refine wc_ret ?_
    refine fin_ret [(.bool true)] ⟨rfl, trivial⟩ ?_
    exact ⟨vbool (by rw [← List.take_of_length_le (show l.length ≤ k by omega)]; exact hf0_1.symm), hM.rel⟩

theorem ct_spec_SignOk (w : World) (n : Int) : Ret Try.prog 159 [.int .i64 n] w (fun u w' => u = .bool (signOk n) ∧ Rel w w') := by
  refine enter Try.func159 rfl Try.ntmps159 (by kernel_rfl) rfl ?_
  have hM := St.init w
  refine wc_seq ?_
  refine wc_region ?_
  refine wv rfl (r_assign rfl) ?_
  refine wl_nil ?_
  refine sq_n ?_
  refine wc_seq ?_
  refine wc_region ?_
  refine wv rfl (r_move rfl) ?_
  refine w_call rfl rfl (ct_spec_l01In _ n (0 : Int) (1114111 : Int)) ?_
  rintro _ w1 ⟨rfl, hR2⟩
  have hM := hM.call hR2
  refine wv rfl (r_move rfl) ?_
  refine wl_mid 4 (fun _ : Unit => [(9, (.bool ((within n 0 1114111) && (!(within n 55296 57343)))))]) (fun _ w' => St (b0 w) [] [] w') ?_ ?_
  · rcases Bool.eq_false_or_eq_true (within n 0 1114111) with hg3 | hg3
    · skip
      refine gv rfl hg3 rfl (r_move rfl) ?_
      refine gc rfl hg3 rfl rfl (ct_spec_l01In _ n (55296 : Int) (57343 : Int)) ?_
      rintro _ w4 ⟨rfl, hR5⟩
      have hM := hM.call hR5
      refine gv rfl hg3 rfl (r_not rfl) ?_
      refine wv rfl (p_t rfl hg3 rfl) ?_
      exact mid_nil () ⟨bcongr (and_t hg3), trivial⟩ hM
    · skip
      refine gs rfl (isB_no hg3) rfl ?_
      refine gs rfl (isB_no hg3) rfl ?_
      refine gs rfl (isB_no hg3) rfl ?_
      refine wv rfl (p_f rfl hg3 rfl) ?_
      exact mid_nil () ⟨bcongr (and_f hg3), trivial⟩ hM
  rintro _ w6 hM
  refine wv rfl (r_assign rfl) ?_
  refine wl_nil ?_
  refine sq_n ?_
  refine wc_ret ?_
  refine fin_ret [(.bool ((within n 0 1114111) && (!(within n 55296 57343))))] ⟨rfl, trivial⟩ ?_
  exact ⟨vbool (by simp [signOk]), hM.rel⟩

theorem ct_spec_SignsOk (w : World) (v_l : Value) (l : List Int) (a_l : Arg w [v_l] (dFs 1 fI l)) : Ret Try.prog 147 [v_l] w (fun u w' => u = .bool (signsOk l) ∧ Rel w w') := by
  refine enter Try.func147 rfl Try.ntmps147 (by kernel_rfl) rfl ?_
  have hM := St.init w
  have hM := hM.addA a_l
  have hl_l := Fs.le a_l
  refine wc_seq ?_
  refine wc_region ?_
  refine wv rfl (r_assign rfl) ?_
  refine wl_nil ?_
  refine sq_n ?_
  refine wc_seq ?_
  refine wc_seq ?_
  refine wc_region ?_
  refine wv rfl (r_move rfl) ?_
  refine wv rfl (r_lenF Try.underlying22 rfl (hM.arg (.head _))) ?_
  refine wv rfl (r_move rfl) ?_
  refine wl_nil ?_
  refine sq_n ?_
  refine wc_block ?_
  refine wc_loop1 (fun (k : Nat) => [(5, v_l), (6, (.int .i64 (l.length : Int))), (7, (.int .i64 (k : Int)))]) (fun (k : Nat) w' => St (b0 w) [] [([v_l], dFs 1 fI l)] w' ∧ (k ≤ l.length) ∧ ((l.take k).all signOk = true)) (fun (k : Nat) => l.length - k) 0 ⟨rfl, rfl, rfl, trivial⟩ ⟨hM, (by omega), (by simp)⟩ ?_
  rintro k w1 ⟨hM, hf0_0, hf0_1⟩
  refine wc_seq ?_
  refine wc_region ?_
  refine wv rfl (r_lss rfl rfl) ?_
  refine wl_nil ?_
  refine sq_n ?_
  refine wc_seq ?_
  refine wc_cond rfl (fun hc2 => ?_) (fun hc2 => ?_)
  · skip
    have hc2 := of_decide_eq_true hc2
    refine wc_skip ?_
    refine sq_n ?_
    refine wc_seq ?_
    refine wc_block ?_
    refine wc_seq ?_
    refine wc_region ?_
    refine wv rfl (r_ixF Try.underlying22 sz3 rfl rfl (hM.arg (.head _)) ⟨by omega, by omega⟩) ?_
    refine wv rfl (r_ldF0 (i := k) 0 Try.underlying3 rfl rfl (hM.arg (.head _)) (by omega) rfl) ?_
    refine wv rfl (r_assign rfl) ?_
    refine wl_nil ?_
    refine sq_n ?_
    refine wc_seq ?_
    refine wc_region ?_
    refine wv rfl (r_move rfl) ?_
    refine w_call rfl rfl (ct_spec_SignOk _ (l.getD k 0)) ?_
    rintro _ w3 ⟨rfl, hR4⟩
    have hM := hM.call hR4
    refine wv rfl (r_not rfl) ?_
    refine wl_nil ?_
    refine sq_n ?_
    refine wc_cond rfl (fun hc5 => ?_) (fun hc5 => ?_)
    · skip
      have hc5 := bnot_t hc5
      refine wc_seq ?_
      refine wc_region ?_
      refine wv rfl (r_assign rfl) ?_
      refine wl_nil ?_
      refine sq_n ?_
      refine wc_ret ?_
      refine bk_ret ?_
      refine sq_ret ?_
      refine lp1_ret ?_
      refine bk_ret ?_
      refine sq_ret ?_
      refine fin_ret [(.bool false)] ⟨rfl, trivial⟩ ?_
      exact ⟨vbool ((all_false l k 0 signOk (by omega) (by assumption)).symm), hM.rel⟩
    · skip
      have hc5 := bnot_f hc5
      refine wc_skip ?_
      refine bk_n ?_
      refine sq_n ?_
      refine wc_region ?_
      refine wv rfl (r_add rfl rfl ⟨by omega, by omega⟩) ?_
      refine wv rfl (r_move rfl) ?_
      refine wl_nil ?_
      exact lp_end1 (k + 1) (by omega) ⟨rfl, rfl, rfl, trivial⟩ ⟨hM, (by omega), (by rw [all_take _ _ _ 0 (by omega), hf0_1, Bool.true_and]; assumption)⟩
  · skip
    have hc2 := of_decide_eq_false hc2
    refine wc_exit ?_
    refine sq_exit ?_
    refine lp1_exit ?_
    refine bk_here ?_
    refine sq_n ?_
    refine wc_seq ?_
    refine wc_region ?_
    refine wv rfl (r_assign rfl) ?_
    refine wl_nil ?_
    refine sq_n ?_
    refine wc_ret ?_
    refine fin_ret [(.bool true)] ⟨rfl, trivial⟩ ?_
    exact ⟨vbool (by rw [← List.take_of_length_le (show l.length ≤ k by omega)]; exact hf0_1.symm), hM.rel⟩

theorem ct_impl_TextOk (w : World) (v_t : Value) (t : List Int) (a_t : Arg w [v_t] (dFs 1 fI t)) : Ret Try.prog 107 [v_t] w (fun u w' => u = .bool (textOk t) ∧ Rel w w') := by
  refine enter Try.func107 rfl Try.ntmps107 (by kernel_rfl) rfl ?_
  have hM := St.init w
  have hM := hM.addA a_t
  have hl_t := Fs.le a_t
  refine wc_seq ?_
  refine wc_region ?_
  refine wv rfl (r_assign rfl) ?_
  refine wl_nil ?_
  refine sq_n ?_
  refine wc_seq ?_
  refine wc_region ?_
  refine wv rfl (r_move rfl) ?_
  refine wv rfl (r_lenF Try.underlying22 rfl (hM.arg (.head _))) ?_
  refine wv rfl (r_leq rfl rfl) ?_
  refine wv rfl (r_move rfl) ?_
  refine wl_mid 3 (fun _ : Unit => [(9, (.bool ((decide ((t.length : Int) ≤ 200)) && (signsOk t))))]) (fun _ w' => St (b0 w) [] [([v_t], dFs 1 fI t)] w') ?_ ?_
  · rcases Bool.eq_false_or_eq_true (decide ((t.length : Int) ≤ 200)) with hg1 | hg1
    · skip
      have hg1p := of_decide_eq_true hg1
      refine gv rfl hg1 rfl (r_move rfl) ?_
      refine gc rfl hg1 rfl rfl (ct_impl_SignsOk _ _ t (hM.arg (.head _))) ?_
      rintro _ w2 ⟨rfl, hR3⟩
      have hM := hM.call hR3
      refine wv rfl (p_t rfl hg1 rfl) ?_
      exact mid_nil () ⟨bcongr (and_t hg1), trivial⟩ hM
    · skip
      have hg1p := of_decide_eq_false hg1
      refine gs rfl (isB_no hg1) rfl ?_
      refine gs rfl (isB_no hg1) rfl ?_
      refine wv rfl (p_f rfl hg1 rfl) ?_
      exact mid_nil () ⟨bcongr (and_f hg1), trivial⟩ hM
  rintro _ w4 hM
  refine wv rfl (r_assign rfl) ?_
  refine wl_nil ?_
  refine sq_n ?_
  refine wc_ret ?_
  refine fin_ret [(.bool ((decide ((t.length : Int) ≤ 200)) && (signsOk t)))] ⟨rfl, trivial⟩ ?_
  exact ⟨vbool (by simp [textOk]), hM.rel⟩

theorem ct_spec_TextOk (w : World) (v_t : Value) (t : List Int) (a_t : Arg w [v_t] (dFs 1 fI t)) : Ret Try.prog 121 [v_t] w (fun u w' => u = .bool (textOk t) ∧ Rel w w') := by
  refine enter Try.func121 rfl Try.ntmps121 (by kernel_rfl) rfl ?_
  have hM := St.init w
  have hM := hM.addA a_t
  have hl_t := Fs.le a_t
  refine wc_seq ?_
  refine wc_region ?_
  refine wv rfl (r_assign rfl) ?_
  refine wl_nil ?_
  refine sq_n ?_
  refine wc_seq ?_
  refine wc_region ?_
  refine wv rfl (r_move rfl) ?_
  refine w_call rfl rfl (ct_spec_SignsOk _ _ t (hM.arg (.head _))) ?_
  rintro _ w1 ⟨rfl, hR2⟩
  have hM := hM.call hR2
  refine wv rfl (r_move rfl) ?_
  refine wl_mid 4 (fun _ : Unit => [(9, (.bool ((signsOk t) && (decide ((t.length : Int) ≤ 200)))))]) (fun _ w' => St (b0 w) [] [([v_t], dFs 1 fI t)] w') ?_ ?_
  · rcases Bool.eq_false_or_eq_true (signsOk t) with hg3 | hg3
    · skip
      refine gv rfl hg3 rfl (r_move rfl) ?_
      refine gv rfl hg3 rfl (r_lenF Try.underlying22 rfl (hM.arg (.head _))) ?_
      refine gv rfl hg3 rfl (r_leq rfl rfl) ?_
      refine wv rfl (p_t rfl hg3 rfl) ?_
      exact mid_nil () ⟨bcongr (and_t hg3), trivial⟩ hM
    · skip
      refine gs rfl (isB_no hg3) rfl ?_
      refine gs rfl (isB_no hg3) rfl ?_
      refine gs rfl (isB_no hg3) rfl ?_
      refine wv rfl (p_f rfl hg3 rfl) ?_
      exact mid_nil () ⟨bcongr (and_f hg3), trivial⟩ hM
  rintro _ w4 hM
  refine wv rfl (r_assign rfl) ?_
  refine wl_nil ?_
  refine sq_n ?_
  refine wc_ret ?_
  refine fin_ret [(.bool ((signsOk t) && (decide ((t.length : Int) ≤ 200))))] ⟨rfl, trivial⟩ ?_
  exact ⟨vbool (by rw [textOk, Bool.and_comm]), hM.rel⟩

theorem ct_impl_copyInts (w : World) (v_l : Value) (l : List Int) (a_l : Arg w [v_l] (dFs 1 fI l)) (hp0 : (l.length : Int) ≤ 1048576) : Ret Try.prog 116 [v_l] w (fun u w' => Rel w w' ∧ w'.ownsRow w.heap.size 3 1 u l.length (l.flatMap fI)) := by
  refine enter Try.func116 rfl Try.ntmps116 (by kernel_rfl) rfl ?_
  have hM := St.init w
  have hM := hM.addA a_l
  have hl_l := Fs.le a_l
  refine wc_seq ?_
  refine wc_region ?_
  refine wv rfl (r_assign rfl) ?_
  refine wl_nil ?_
  refine sq_n ?_
  refine wc_seq ?_
  refine wc_region ?_
  refine wv rfl (r_move rfl) ?_
  have hM := hM.nilF (T := Int) 3 1 fI
  refine w_appendF rfl Try.underlying22 sz3 (fun _ => rfl) rfl rfl (hM.see (.head _)) hM (fun _ => rfl) (by simp only [maxLen, List.length_nil]; omega) (by simp only [List.length_nil]; omega) ?_; intro v3 w2 hM
  refine wv rfl (r_assign rfl) ?_
  refine wl_nil ?_
  refine sq_n ?_
  refine wc_ret ?_
  refine fin_ret [v3] ⟨rfl, trivial⟩ ?_
  have ho0 := hM.ownR
  rw [show ([]) ++ l = l from List.nil_append l] at ho0
  exact ⟨hM.rel, ho0⟩

theorem ct_laws_toIntS (w : World) (v_a : Value) (a : List Int) (a_a : Arg w [v_a] (dFs 1 fI a)) (hp0 : (a.length : Int) ≤ 1048576) : Ret Try.prog 15 [v_a] w (fun u w' => Rel w w' ∧ w'.ownsRow w.heap.size 3 1 u a.length (a.flatMap fI)) := by
  refine enter Try.func15 rfl Try.ntmps15 (by kernel_rfl) rfl ?_
  have hM := St.init w
  have hM := hM.addA a_a
  have hl_a := Fs.le a_a
  refine wc_seq ?_
  refine wc_region ?_
  refine wv rfl (r_assign rfl) ?_
  refine wl_nil ?_
  refine sq_n ?_
  refine wc_seq ?_
  refine wc_region ?_
  refine wv rfl (r_move rfl) ?_
  refine wv rfl (r_lenF Try.underlying22 rfl (hM.arg (.head _))) ?_
  refine w_makeF (f := fI) (k := a.length) 0 rfl Try.underlying22 sz3 rfl rfl (by omega) (by omega) hM ?_; intro v2 w1 hM
  refine wv rfl (r_assign rfl) ?_
  refine wl_nil ?_
  refine sq_n ?_
  refine wc_seq ?_
  refine wc_seq ?_
  refine wc_region ?_
  refine wv rfl (r_assign rfl) ?_
  refine wl_nil ?_
  refine sq_n ?_
  refine wc_block ?_
  refine wc_loop1 (fun (k : Nat) => [(0, v_a), (3, v2), (4, (.int .i64 (k : Int)))]) (fun (k : Nat) w' => St (b0 w) [oF v2 3 1 fI (a.take k ++ List.replicate (a.length - k) 0)] [([v_a], dFs 1 fI a)] w' ∧ (k ≤ a.length)) (fun (k : Nat) => a.length - k) 0 ⟨rfl, rfl, rfl, trivial⟩ ⟨(by simpa using hM), (by omega)⟩ ?_
  rintro k w4 ⟨hM, hf0_0⟩
  have hlen : (a.take k ++ List.replicate (a.length - k) 0).length = a.length := by simp; omega
  refine wc_seq ?_
  refine wc_seq ?_
  refine wc_region ?_
  refine wv rfl (r_move rfl) ?_
  refine wv rfl (r_move rfl) ?_
  refine wv rfl (r_lenF Try.underlying22 rfl (hM.arg (.head _))) ?_
  refine wv rfl (r_lss rfl rfl) ?_
  refine wl_nil ?_
  refine sq_n ?_
  refine wc_cond rfl (fun hc5 => ?_) (fun hc5 => ?_)
  · skip
    have hc5 := of_decide_eq_true hc5
    refine wc_skip ?_
    refine sq_n ?_
    refine wc_seq ?_
    refine wc_block ?_
    refine wc_region ?_
    refine wv rfl (r_move rfl) ?_
    refine wv rfl (r_move rfl) ?_
    refine wv rfl (r_move rfl) ?_
    refine wv rfl (r_move rfl) ?_
    refine wv rfl (r_ixF Try.underlying22 sz3 rfl rfl (hM.arg (.head _)) ⟨by omega, by omega⟩) ?_
    refine wv rfl (r_ldF0 (i := k) 0 Try.underlying3 rfl rfl (hM.arg (.head _)) (by omega) rfl) ?_
    refine wv rfl (r_ixO Try.underlying22 sz3 rfl rfl (hM.at' (.head _)) ⟨by omega, by omega⟩) ?_
    refine w_stF0 (f := fI) (L := (a.take k ++ List.replicate (a.length - k) 0)) (i := k) 0 (a.getD k 0) sz3 (fun _ => rfl) rfl rfl rfl (by omega) rfl rfl hM ?_; intro w6 hM
    refine wl_nil ?_
    refine bk_n ?_
    refine sq_n ?_
    refine wc_region ?_
    refine wv rfl (r_move rfl) ?_
    refine wv rfl (r_add rfl rfl ⟨by omega, by omega⟩) ?_
    refine wv rfl (r_assign rfl) ?_
    refine wl_nil ?_
    rw [copy_step a k 0 (by omega)] at hM
    exact lp_end1 (k + 1) (by omega) ⟨rfl, rfl, rfl, trivial⟩ ⟨hM, (by omega)⟩
  · skip
    have hc5 := of_decide_eq_false hc5
    refine wc_exit ?_
    refine sq_exit ?_
    refine lp1_exit ?_
    refine bk_here ?_
    refine sq_n ?_
    refine wc_seq ?_
    refine wc_region ?_
    refine wv rfl (r_move rfl) ?_
    refine wv rfl (r_assign rfl) ?_
    refine wl_nil ?_
    refine sq_n ?_
    refine wc_ret ?_
    refine fin_ret [v2] ⟨rfl, trivial⟩ ?_
    have ho0 := hM.ownR
    rw [show a.take k ++ List.replicate (a.length - k) 0 = a from copy_end a k 0 (by omega)] at ho0
    exact ⟨hM.rel, ho0⟩

theorem ct_laws_eqIntS (w : World) (v_a : Value) (a : List Int) (a_a : Arg w [v_a] (dFs 1 fI a)) (v_b : Value) (b : List Int) (a_b : Arg w [v_b] (dFs 1 fI b)) : Ret Try.prog 17 [v_a, v_b] w (fun u w' => u = .bool (decide (a = b)) ∧ Rel w w') := by
  refine enter Try.func17 rfl Try.ntmps17 (by kernel_rfl) rfl ?_
  have hM := St.init w
  have hM := hM.addA a_a
  have hl_a := Fs.le a_a
  have hM := hM.addA a_b
  have hl_b := Fs.le a_b
  refine wc_seq ?_
  refine wc_region ?_
  refine wv rfl (r_assign rfl) ?_
  refine wl_nil ?_
  refine sq_n ?_
  refine wc_seq ?_
  refine wc_seq ?_
  refine wc_region ?_
  refine wv rfl (r_move rfl) ?_
  refine wv rfl (r_lenF Try.underlying22 rfl (hM.arg (.tail _ (.head _)))) ?_
  refine wv rfl (r_move rfl) ?_
  refine wv rfl (r_lenF Try.underlying22 rfl (hM.arg (.head _))) ?_
  refine wv rfl (r_neq rfl rfl) ?_
  refine wl_nil ?_
  refine sq_n ?_
  refine wc_cond rfl (fun hc1 => ?_) (fun hc1 => ?_)
  · skip
    have hc1 := bnot_t hc1
    have hc1 := of_decide_eq_false hc1
    refine wc_seq ?_
    refine wc_region ?_
    refine wv rfl (r_assign rfl) ?_
    refine wl_nil ?_
    refine sq_n ?_
    refine wc_ret ?_
    refine sq_ret ?_
    refine fin_ret [(.bool false)] ⟨rfl, trivial⟩ ?_
    exact ⟨vbool ((decide_eq_false (fun e => by subst e; exact absurd rfl (by assumption))).symm), hM.rel⟩
  · skip
    have hc1 := bnot_f hc1
    have hc1 := of_decide_eq_true hc1
    refine wc_skip ?_
    refine sq_n ?_
    refine wc_seq ?_
    refine wc_seq ?_
    refine wc_region ?_
    refine wv rfl (r_assign rfl) ?_
    refine wl_nil ?_
    refine sq_n ?_
    refine wc_block ?_
    refine wc_loop1 (fun (k : Nat) => [(0, v_a), (1, v_b), (5, (.int .i64 (k : Int)))]) (fun (k : Nat) w' => St (b0 w) [] [([v_b], dFs 1 fI b), ([v_a], dFs 1 fI a)] w' ∧ (k ≤ a.length) ∧ (a.take k = b.take k)) (fun (k : Nat) => a.length - k) 0 ⟨rfl, rfl, rfl, trivial⟩ ⟨hM, (by omega), (rfl)⟩ ?_
    rintro k w2 ⟨hM, hf0_0, hf0_1⟩
    refine wc_seq ?_
    refine wc_seq ?_
    refine wc_region ?_
    refine wv rfl (r_move rfl) ?_
    refine wv rfl (r_move rfl) ?_
    refine wv rfl (r_lenF Try.underlying22 rfl (hM.arg (.tail _ (.head _)))) ?_
    refine wv rfl (r_lss rfl rfl) ?_
    refine wl_nil ?_
    refine sq_n ?_
    refine wc_cond rfl (fun hc3 => ?_) (fun hc3 => ?_)
    · skip
      have hc3 := of_decide_eq_true hc3
      refine wc_skip ?_
      refine sq_n ?_
      refine wc_seq ?_
      refine wc_block ?_
      refine wc_seq ?_
      refine wc_draw [(0, false), (1, false), (2, false), (3, false), (4, false), (5, false), (6, false), (7, false), (8, false)] Try_mixed (by kernel_rfl) rfl (by kernel_rfl) rfl ?_
      refine ov rfl (fun w' h' => r_move rfl) ?_
      refine ov rfl (fun w' h' => r_move rfl) ?_
      refine ov rfl (fun w' h' => r_ixF Try.underlying22 sz3 rfl rfl ((hM.call h').arg (.tail _ (.head _))) ⟨by omega, by omega⟩) ?_
      refine ov rfl (fun w' h' => r_ldF0 (i := k) 0 Try.underlying3 rfl rfl ((hM.call h').arg (.tail _ (.head _))) (by omega) rfl) ?_
      refine ov rfl (fun w' h' => r_move rfl) ?_
      refine ov rfl (fun w' h' => r_move rfl) ?_
      refine ov rfl (fun w' h' => r_ixF Try.underlying22 sz3 rfl rfl ((hM.call h').arg (.head _)) ⟨by omega, by omega⟩) ?_
      refine ov rfl (fun w' h' => r_ldF0 (i := k) 0 Try.underlying3 rfl rfl ((hM.call h').arg (.head _)) (by omega) rfl) ?_
      refine ov rfl (fun w' h' => r_neq rfl rfl) ?_
      refine o_nil fun w4 hw5 => ?_
      have hM := hM.call hw5
      refine sq_n ?_
      refine wc_cond rfl (fun hc6 => ?_) (fun hc6 => ?_)
      · skip
        have hc6 := bnot_t hc6
        have hc6 := of_decide_eq_false hc6
        refine wc_seq ?_
        refine wc_region ?_
        refine wv rfl (r_assign rfl) ?_
        refine wl_nil ?_
        refine sq_n ?_
        refine wc_ret ?_
        refine bk_ret ?_
        refine sq_ret ?_
        refine lp1_ret ?_
        refine bk_ret ?_
        refine sq_ret ?_
        refine fin_ret [(.bool false)] ⟨rfl, trivial⟩ ?_
        exact ⟨vbool ((decide_eq_false (fun e => by subst e; exact absurd rfl (by assumption))).symm), hM.rel⟩
      · skip
        have hc6 := bnot_f hc6
        have hc6 := of_decide_eq_true hc6
        refine wc_skip ?_
        refine bk_n ?_
        refine sq_n ?_
        refine wc_region ?_
        refine wv rfl (r_move rfl) ?_
        refine wv rfl (r_add rfl rfl ⟨by omega, by omega⟩) ?_
        refine wv rfl (r_assign rfl) ?_
        refine wl_nil ?_
        exact lp_end1 (k + 1) (by omega) ⟨rfl, rfl, rfl, trivial⟩ ⟨hM, (by omega), (take_eq_step (by omega) (by omega) (by assumption) (by assumption))⟩
    · skip
      have hc3 := of_decide_eq_false hc3
      refine wc_exit ?_
      refine sq_exit ?_
      refine lp1_exit ?_
      refine bk_here ?_
      refine sq_n ?_
      refine wc_seq ?_
      refine wc_region ?_
      refine wv rfl (r_assign rfl) ?_
      refine wl_nil ?_
      refine sq_n ?_
      refine wc_ret ?_
      refine fin_ret [(.bool true)] ⟨rfl, trivial⟩ ?_
      exact ⟨vbool ((decide_eq_true (take_eq_end (k := k) (by omega) (by omega) (by assumption))).symm), hM.rel⟩

theorem ct_laws_markIntS (w : World) (v_a : Value) (a : List Int) (o_a : (oF v_a 3 1 fI a).ok w) (k : Int) (hp0 : 0 ≤ k ∧ k ≤ 1099511627776 ∧ (a.length : Int) ≤ 1099511627776) : Ret Try.prog 20 [v_a, .int .i64 k] w (fun u w' => u = .int .i64 (k + (a.length : Int)) ∧ RelX (fun b => v_a.ownBlock = some b) w w' ∧ (oF v_a 3 1 fI (marked a k a.length)).ok w') := by
  refine enter Try.func20 rfl Try.ntmps20 (by kernel_rfl) rfl ?_
  have hM := St.initX o_a
  have hl_a := Of.le o_a
  refine wc_seq ?_
  refine wc_region ?_
  refine wv rfl (r_assign rfl) ?_
  refine wl_nil ?_
  refine sq_n ?_
  refine wc_seq ?_
  refine wc_seq ?_
  refine wc_region ?_
  refine wv rfl (r_assign rfl) ?_
  refine wl_nil ?_
  refine sq_n ?_
  refine wc_block ?_
  refine wc_loop1 (fun (j : Nat) => [(0, v_a), (1, (.int .i64 (k + (j : Int)))), (5, (.int .i64 (j : Int)))]) (fun (j : Nat) w' => St ⟨w, fun b => v_a.ownBlock = some b⟩ [oF v_a 3 1 fI (marked a k j)] [] w' ∧ (j ≤ a.length)) (fun (j : Nat) => a.length - j) 0 ⟨rfl, icongr (by simp), rfl, trivial⟩ ⟨hM, (by omega)⟩ ?_
  rintro j w2 ⟨hM, hf0_0⟩
  have hlen := marked_len a k j (by omega)
  refine wc_seq ?_
  refine wc_seq ?_
  refine wc_region ?_
  refine wv rfl (r_move rfl) ?_
  refine wv rfl (r_move rfl) ?_
  refine wv rfl (r_lenO Try.underlying22 rfl (hM.at' (.head _))) ?_
  refine wv rfl (r_lss rfl rfl) ?_
  refine wl_nil ?_
  refine sq_n ?_
  refine wc_cond rfl (fun hc3 => ?_) (fun hc3 => ?_)
  · skip
    have hc3 := of_decide_eq_true hc3
    refine wc_skip ?_
    refine sq_n ?_
    refine wc_seq ?_
    refine wc_block ?_
    refine wc_seq ?_
    refine wc_region ?_
    refine wv rfl (r_move rfl) ?_
    refine wv rfl (r_move rfl) ?_
    refine wv rfl (r_move rfl) ?_
    refine wv rfl (r_ixO Try.underlying22 sz3 rfl rfl (hM.at' (.head _)) ⟨by omega, by omega⟩) ?_
    refine w_stF0 (f := fI) (L := (marked a k j)) (i := j) 0 (k + (j : Int)) sz3 (fun _ => rfl) rfl rfl rfl (by omega) rfl rfl hM ?_; intro w4 hM
    refine wl_nil ?_
    refine sq_n ?_
    refine wc_region ?_
    refine wv rfl (r_move rfl) ?_
    refine wv rfl (r_add rfl rfl ⟨by omega, by omega⟩) ?_
    refine wv rfl (r_assign rfl) ?_
    refine wl_nil ?_
    refine bk_n ?_
    refine sq_n ?_
    refine wc_region ?_
    refine wv rfl (r_move rfl) ?_
    refine wv rfl (r_add rfl rfl ⟨by omega, by omega⟩) ?_
    refine wv rfl (r_assign rfl) ?_
    refine wl_nil ?_
    rw [marked_set a k j (by omega)] at hM
    exact lp_end1 (j + 1) (by omega) ⟨rfl, icongr (by omega), rfl, trivial⟩ ⟨hM, (by omega)⟩
  · skip
    have hc3 := of_decide_eq_false hc3
    refine wc_exit ?_
    refine sq_exit ?_
    refine lp1_exit ?_
    refine bk_here ?_
    refine sq_n ?_
    refine wc_seq ?_
    refine wc_region ?_
    refine wv rfl (r_move rfl) ?_
    refine wv rfl (r_assign rfl) ?_
    refine wl_nil ?_
    refine sq_n ?_
    refine wc_ret ?_
    refine fin_ret [(.int .i64 (k + (j : Int)))] ⟨rfl, trivial⟩ ?_
    have ho := hM.top
    rw [show marked a k j = marked a k a.length from by rw [show j = a.length by omega]] at ho
    exact ⟨vint (by omega), hM.relx, ho⟩

theorem ct_laws_heldIntS (w : World) (v_a : Value) (a : List Int) (a_a : Arg w [v_a] (dFs 1 fI a)) (k : Int) (hp0 : 0 ≤ k ∧ k ≤ 1099511627776 ∧ (a.length : Int) ≤ 1099511627776) : Ret Try.prog 21 [v_a, .int .i64 k] w (fun u w' => u = .int .i64 (held a k) ∧ Rel w w') := by
  refine enter Try.func21 rfl Try.ntmps21 (by kernel_rfl) rfl ?_
  have hM := St.init w
  have hM := hM.addA a_a
  have hl_a := Fs.le a_a
  refine wc_seq ?_
  refine wc_region ?_
  refine wv rfl (r_assign rfl) ?_
  refine wl_nil ?_
  refine sq_n ?_
  refine wc_seq ?_
  refine wc_seq ?_
  refine wc_region ?_
  refine wv rfl (r_assign rfl) ?_
  refine wl_nil ?_
  refine sq_n ?_
  refine wc_block ?_
  refine wc_loop1 (fun (j : Nat) => [(0, v_a), (1, (.int .i64 (k + (j : Int)))), (5, (.int .i64 (j : Int)))]) (fun (j : Nat) w' => St (b0 w) [] [([v_a], dFs 1 fI a)] w' ∧ (j ≤ a.length) ∧ (held (a.drop j) (k + (j : Int)) = held a k)) (fun (j : Nat) => a.length - j) 0 ⟨rfl, icongr (by simp), rfl, trivial⟩ ⟨hM, (by omega), (by simp)⟩ ?_
  rintro j w1 ⟨hM, hf0_0, hf0_1⟩
  refine wc_seq ?_
  refine wc_seq ?_
  refine wc_region ?_
  refine wv rfl (r_move rfl) ?_
  refine wv rfl (r_move rfl) ?_
  refine wv rfl (r_lenF Try.underlying22 rfl (hM.arg (.head _))) ?_
  refine wv rfl (r_lss rfl rfl) ?_
  refine wl_nil ?_
  refine sq_n ?_
  refine wc_cond rfl (fun hc2 => ?_) (fun hc2 => ?_)
  · skip
    have hc2 := of_decide_eq_true hc2
    refine wc_skip ?_
    refine sq_n ?_
    refine wc_seq ?_
    refine wc_block ?_
    refine wc_seq ?_
    refine wc_seq ?_
    refine wc_region ?_
    refine wv rfl (r_move rfl) ?_
    refine wv rfl (r_move rfl) ?_
    refine wv rfl (r_ixF Try.underlying22 sz3 rfl rfl (hM.arg (.head _)) ⟨by omega, by omega⟩) ?_
    refine wv rfl (r_ldF0 (i := j) 0 Try.underlying3 rfl rfl (hM.arg (.head _)) (by omega) rfl) ?_
    refine wv rfl (r_move rfl) ?_
    refine wv rfl (r_neq rfl rfl) ?_
    refine wl_nil ?_
    refine sq_n ?_
    refine wc_cond rfl (fun hc3 => ?_) (fun hc3 => ?_)
    · skip
      have hc3 := bnot_t hc3
      have hc3 := of_decide_eq_false hc3
      refine wc_seq ?_
      refine wc_region ?_
      refine wv rfl (r_assign rfl) ?_
      refine wl_nil ?_
      refine sq_n ?_
      refine wc_ret ?_
      refine sq_ret ?_
      refine bk_ret ?_
      refine sq_ret ?_
      refine lp1_ret ?_
      refine bk_ret ?_
      refine sq_ret ?_
      refine fin_ret [(.int .i64 (-1))] ⟨rfl, trivial⟩ ?_
      exact ⟨vint (held_stop (j := j) (by omega) hf0_1 (by assumption)), hM.rel⟩
    · skip
      have hc3 := bnot_f hc3
      have hc3 := of_decide_eq_true hc3
      refine wc_skip ?_
      refine sq_n ?_
      refine wc_region ?_
      refine wv rfl (r_move rfl) ?_
      refine wv rfl (r_add rfl rfl ⟨by omega, by omega⟩) ?_
      refine wv rfl (r_assign rfl) ?_
      refine wl_nil ?_
      refine bk_n ?_
      refine sq_n ?_
      refine wc_region ?_
      refine wv rfl (r_move rfl) ?_
      refine wv rfl (r_add rfl rfl ⟨by omega, by omega⟩) ?_
      refine wv rfl (r_assign rfl) ?_
      refine wl_nil ?_
      exact lp_end1 (j + 1) (by omega) ⟨rfl, icongr (by omega), rfl, trivial⟩ ⟨hM, (by omega), (held_step (by omega) hf0_1 (by assumption))⟩
  · skip
    have hc2 := of_decide_eq_false hc2
    refine wc_exit ?_
    refine sq_exit ?_
    refine lp1_exit ?_
    refine bk_here ?_
    refine sq_n ?_
    refine wc_seq ?_
    refine wc_region ?_
    refine wv rfl (r_move rfl) ?_
    refine wv rfl (r_assign rfl) ?_
    refine wl_nil ?_
    refine sq_n ?_
    refine wc_ret ?_
    refine fin_ret [(.int .i64 (k + (j : Int)))] ⟨rfl, trivial⟩ ?_
    exact ⟨vint (held_end (j := j) (by omega) hf0_1), hM.rel⟩

end Go.Proofs.Ythnnhoabdhhkaaa
