/- Walks of functions of this program (printed by a program of ours, by the rules of the layer). No condition. -/
import Derived.Test.YtenkkffokomonaaWA
import Derived.Test.YtenkkffokomonaaMathM
namespace Go.Proofs.Ytenkkffokomonaa
open Go.RowKit

theorem ct_impl_MarksOk (w : World) (v_l : Value) (l : List Mk) (a_l : Arg w [v_l] (dFs 3 fM l)) (n : Int) : Ret Try.prog 16 [v_l, .int .i64 n] w (fun u w' => u = .bool (marksOk l n) ∧ Rel w w') := by
  refine enter Try.func16 rfl Try.ntmps16 (by kernel_rfl) rfl ?_
  have hM := St.init w
  have hM := hM.addA a_l
  have hl_l := Fs.le a_l
  refine wc_seq ?_
  refine wc_region ?_
  refine wv rfl (r_assign rfl) ?_
  refine wl_nil ?_
  refine sq_n ?_
  refine wc_seq ?_
  refine wc_seq ?_
  refine wc_region ?_
  refine wv rfl (r_move rfl) ?_
  refine w_call rfl rfl (ct_impl_within _ n (0 : Int) (200 : Int)) ?_
  rintro _ w1 ⟨rfl, hR2⟩
  have hM := hM.call hR2
  refine wv rfl (r_not rfl) ?_
  refine wv rfl (r_move rfl) ?_
  refine wl_mid 4 (fun _ : Unit => [(14, (.bool ((!(within n 0 200)) || (decide (12 < (l.length : Int)))))), (0, v_l), (1, (.int .i64 n))]) (fun _ w' => St (b0 w) [] [([v_l], dFs 3 fM l)] w') ?_ ?_
  · rcases Bool.eq_false_or_eq_true (!(within n 0 200)) with hg3 | hg3
    · skip
      refine gs rfl (isB_no hg3) rfl ?_
      refine gs rfl (isB_no hg3) rfl ?_
      refine gs rfl (isB_no hg3) rfl ?_
      refine wv rfl (p_t rfl hg3 rfl) ?_
      exact mid_nil () ⟨bcongr (or_t hg3), rfl, rfl, trivial⟩ hM
    · skip
      refine gv rfl hg3 rfl (r_move rfl) ?_
      refine gv rfl hg3 rfl (r_lenF Try.underlying25 rfl (hM.arg (.head _))) ?_
      refine gv rfl hg3 rfl (r_gtr rfl rfl) ?_
      refine wv rfl (p_f rfl hg3 rfl) ?_
      exact mid_nil () ⟨bcongr (or_f hg3), rfl, rfl, trivial⟩ hM
  rintro _ w4 hM
  refine wl_nil ?_
  refine sq_n ?_
  refine wc_cond rfl (fun hc5 => ?_) (fun hc5 => ?_)
  · skip
    have hy := marksOk_no0 (l := l) (n := n) (by cases hq : within n 0 200 <;> simp_all)
    refine wc_seq ?_
    refine wc_region ?_
    refine wv rfl (r_assign rfl) ?_
    refine wl_nil ?_
    refine sq_n ?_
    refine wc_ret ?_
    refine sq_ret ?_
    refine fin_ret [(.bool false)] ⟨rfl, trivial⟩ ?_
    exact ⟨vbool (by rw [hy]), hM.rel⟩
  · skip
    obtain ⟨hc5a, hc5b⟩ := (Bool.or_eq_false_iff).1 hc5
    have hc5a := bnot_f hc5a
    have hc5b := of_decide_eq_false hc5b
    have hya := hc5a
    have hyb := hc5b
    refine wc_skip ?_
    refine sq_n ?_
    refine wc_seq ?_
    refine wc_seq ?_
    refine wc_region ?_
    refine wv rfl (r_move rfl) ?_
    refine wv rfl (r_lenF Try.underlying25 rfl (hM.arg (.head _))) ?_
    refine wv rfl (r_move rfl) ?_
    refine wl_nil ?_
    refine sq_n ?_
    refine wc_block ?_
    refine wc_loop1 (fun (k : Nat) => [(0, v_l), (1, (.int .i64 n)), (15, v_l), (16, (.int .i64 (l.length : Int))), (17, (.int .i64 (k : Int)))]) (fun (k : Nat) w' => St (b0 w) [] [([v_l], dFs 3 fM l)] w' ∧ k ≤ l.length ∧ ((List.range k).all fun i => !markBad l n i) = true) (fun (k : Nat) => l.length - k) 0 ⟨rfl, rfl, rfl, rfl, rfl, trivial⟩ ⟨hM, (by omega), (rfl)⟩ ?_
    rintro k w6 ⟨hM, hf0_0, hf0_1⟩
    refine wc_seq ?_
    refine wc_region ?_
    refine wv rfl (r_lss rfl rfl) ?_
    refine wl_nil ?_
    refine sq_n ?_
    refine wc_seq ?_
    refine wc_cond rfl (fun hc7 => ?_) (fun hc7 => ?_)
    · skip
      have hc7 := of_decide_eq_true hc7
      refine wc_skip ?_
      refine sq_n ?_
      refine wc_seq ?_
      refine wc_block ?_
      refine wc_seq ?_
      refine wc_region ?_
      refine wv rfl (r_move rfl) ?_
      refine wv rfl (r_ixF Try.underlying25 sz50 rfl rfl (hM.arg (.head _)) ⟨by omega, by omega⟩) ?_
      refine wv rfl (r_ldFS (i := k) mk0 Try.underlying50 sz50 (fun _ => rfl) rfl (hM.arg (.head _)) (by omega)) ?_
      refine w_alloc rfl sz50 hM ?_; intro b8 w9 hM
      refine wv rfl (r_assign rfl) ?_
      refine w_stB sz50 rfl rfl rfl hM rfl rfl ?_; intro w10 hM
      refine wl_nil ?_
      refine sq_n ?_
      refine wc_seq ?_
      refine wc_draw [(0, false), (1, false), (2, false), (3, false), (4, false), (5, false), (6, false), (7, false), (8, false), (9, false), (10, false), (11, false), (12, false), (13, false), (14, false), (15, false), (16, false), (17, false), (18, false), (19, false), (20, false), (21, false), (22, false), (23, false), (24, false), (25, false), (26, false), (27, false), (28, false), (29, false), (30, false), (31, false), (32, false), (33, false), (34, false), (35, false), (36, false)] Try_mixed (by kernel_rfl) rfl (by kernel_rfl) rfl ?_
      refine ov rfl (fun w' h' => r_fld Try.underlying50 rfl rfl sz3 rfl) ?_
      refine ov rfl (fun w' h' => r_ldB Try.underlying3 rfl rfl ((hM.call h').at' (.head _)) rfl) ?_
      refine oc rfl rfl (fun w' h' => ct_impl_within _ ((l.getD k mk0).id) (1 : Int) (1000000000 : Int)) ?_
      refine ov rfl (fun w' h' => r_not rfl) ?_
      refine ov rfl (fun w' h' => r_move rfl) ?_
      refine wo_mid 14 [(40, (.bool ((!(within ((l.getD k mk0).id) 1 1000000000)) || ((decide (0 < (k : Int))) && (decide (((l.getD k mk0).id) ≤ ((l.getD (((k : Int) - 1).toNat) mk0).id))))))), (0, v_l), (1, (.int .i64 n)), (6, (.pointer (some ⟨b8, 0, none⟩))), (15, v_l), (16, (.int .i64 (l.length : Int))), (17, (.int .i64 (k : Int)))] ?_ ?_
      · rcases Bool.eq_false_or_eq_true (!(within ((l.getD k mk0).id) 1 1000000000)) with hg11 | hg11
        · skip
          refine ogs rfl (isB_no hg11) rfl ?_
          refine ogs rfl (isB_no hg11) rfl ?_
          refine ogs rfl (isB_no hg11) rfl ?_
          refine ogs rfl rfl rfl ?_
          refine ogs rfl rfl rfl ?_
          refine ogs rfl rfl rfl ?_
          refine ogs rfl rfl rfl ?_
          refine ogs rfl rfl rfl ?_
          refine ogs rfl rfl rfl ?_
          refine ogs rfl rfl rfl ?_
          refine ogs rfl rfl rfl ?_
          refine ogs rfl rfl rfl ?_
          refine ogs rfl (isB_no hg11) rfl ?_
          refine ov rfl (fun w' h' => p_t rfl hg11 rfl) ?_
          exact mid_onil ⟨bcongr (or_t hg11), rfl, rfl, rfl, rfl, rfl, rfl, trivial⟩
        · skip
          refine ogv rfl hg11 rfl (fun w' h' => r_move rfl) ?_
          refine ogv rfl hg11 rfl (fun w' h' => r_gtr rfl rfl) ?_
          refine ogv rfl hg11 rfl (fun w' h' => r_move rfl) ?_
          refine wo_mid 10 [(39, (.bool ((decide (0 < (k : Int))) && (decide (((l.getD k mk0).id) ≤ ((l.getD (((k : Int) - 1).toNat) mk0).id)))))), (0, v_l), (1, (.int .i64 n)), (6, (.pointer (some ⟨b8, 0, none⟩))), (15, v_l), (16, (.int .i64 (l.length : Int))), (17, (.int .i64 (k : Int))), (26, (.bool (!(within ((l.getD k mk0).id) 1 1000000000)))), (27, (.int .i64 (k : Int))), (28, (.bool (decide (0 < (k : Int))))), (29, (.bool (decide (0 < (k : Int)))))] ?_ ?_
          · rcases Bool.eq_false_or_eq_true (decide (0 < (k : Int))) with hg12 | hg12
            · skip
              have hg12p := of_decide_eq_true hg12
              refine ogv rfl hg12 rfl (fun w' h' => r_move rfl) ?_
              refine ogv rfl hg12 rfl (fun w' h' => r_move rfl) ?_
              refine ogv rfl hg12 rfl (fun w' h' => r_sub rfl rfl ⟨by omega, by omega⟩) ?_
              refine ogv rfl hg12 rfl (fun w' h' => r_ixF Try.underlying25 sz50 rfl rfl ((hM.call h').arg (.head _)) ⟨by omega, by omega⟩) ?_
              refine ogv rfl hg12 rfl (fun w' h' => r_fldF (i := (((k : Int) - 1).toNat)) Try.underlying50 rfl rfl sz3 rfl ((hM.call h').arg (.head _)) (by omega)) ?_
              refine ogv rfl hg12 rfl (fun w' h' => r_ldF (i := (((k : Int) - 1).toNat)) (j := 0) mk0 Try.underlying3 rfl rfl ((hM.call h').arg (.head _)) (by omega) rfl) ?_
              refine ogv rfl hg12 rfl (fun w' h' => r_fld Try.underlying50 rfl rfl sz3 rfl) ?_
              refine ogv rfl hg12 rfl (fun w' h' => r_ldB Try.underlying3 rfl rfl ((hM.call h').at' (.head _)) rfl) ?_
              refine ogv rfl hg12 rfl (fun w' h' => r_geq rfl rfl) ?_
              refine ogv rfl hg11 rfl (fun w' h' => p_t rfl hg12 rfl) ?_
              exact mid_onil ⟨bcongr (and_t hg12), rfl, rfl, rfl, rfl, rfl, rfl, rfl, rfl, rfl, rfl, trivial⟩
            · skip
              have hg12p := of_decide_eq_false hg12
              refine ogs rfl (isB_no hg12) rfl ?_
              refine ogs rfl (isB_no hg12) rfl ?_
              refine ogs rfl (isB_no hg12) rfl ?_
              refine ogs rfl (isB_no hg12) rfl ?_
              refine ogs rfl (isB_no hg12) rfl ?_
              refine ogs rfl (isB_no hg12) rfl ?_
              refine ogs rfl (isB_no hg12) rfl ?_
              refine ogs rfl (isB_no hg12) rfl ?_
              refine ogs rfl (isB_no hg12) rfl ?_
              refine ogv rfl hg11 rfl (fun w' h' => p_f rfl hg12 rfl) ?_
              exact mid_onil ⟨bcongr (and_f hg12), rfl, rfl, rfl, rfl, rfl, rfl, rfl, rfl, rfl, rfl, trivial⟩
          refine ov rfl (fun w' h' => p_f rfl hg11 rfl) ?_
          exact mid_onil ⟨bcongr (or_f hg11), rfl, rfl, rfl, rfl, rfl, rfl, trivial⟩
      refine ov rfl (fun w' h' => r_move rfl) ?_
      refine wo_mid 4 [(45, (.bool (((!(within ((l.getD k mk0).id) 1 1000000000)) || ((decide (0 < (k : Int))) && (decide (((l.getD k mk0).id) ≤ ((l.getD (((k : Int) - 1).toNat) mk0).id))))) || (decide (((l.getD k mk0).lo) < 0))))), (0, v_l), (1, (.int .i64 n)), (6, (.pointer (some ⟨b8, 0, none⟩))), (15, v_l), (16, (.int .i64 (l.length : Int))), (17, (.int .i64 (k : Int)))] ?_ ?_
      · rcases Bool.eq_false_or_eq_true ((!(within ((l.getD k mk0).id) 1 1000000000)) || ((decide (0 < (k : Int))) && (decide (((l.getD k mk0).id) ≤ ((l.getD (((k : Int) - 1).toNat) mk0).id))))) with hg13 | hg13
        · skip
          refine ogs rfl (isB_no hg13) rfl ?_
          refine ogs rfl (isB_no hg13) rfl ?_
          refine ogs rfl (isB_no hg13) rfl ?_
          refine ov rfl (fun w' h' => p_t rfl hg13 rfl) ?_
          exact mid_onil ⟨bcongr (or_t hg13), rfl, rfl, rfl, rfl, rfl, rfl, trivial⟩
        · skip
          refine ogv rfl hg13 rfl (fun w' h' => r_fld Try.underlying50 rfl rfl sz3 rfl) ?_
          refine ogv rfl hg13 rfl (fun w' h' => r_ldB Try.underlying3 rfl rfl ((hM.call h').at' (.head _)) rfl) ?_
          refine ogv rfl hg13 rfl (fun w' h' => r_lss rfl rfl) ?_
          refine ov rfl (fun w' h' => p_f rfl hg13 rfl) ?_
          exact mid_onil ⟨bcongr (or_f hg13), rfl, rfl, rfl, rfl, rfl, rfl, trivial⟩
      refine ov rfl (fun w' h' => r_move rfl) ?_
      refine wo_mid 6 [(52, (.bool ((((!(within ((l.getD k mk0).id) 1 1000000000)) || ((decide (0 < (k : Int))) && (decide (((l.getD k mk0).id) ≤ ((l.getD (((k : Int) - 1).toNat) mk0).id))))) || (decide (((l.getD k mk0).lo) < 0))) || (decide (((l.getD k mk0).hi) < ((l.getD k mk0).lo)))))), (0, v_l), (1, (.int .i64 n)), (6, (.pointer (some ⟨b8, 0, none⟩))), (15, v_l), (16, (.int .i64 (l.length : Int))), (17, (.int .i64 (k : Int)))] ?_ ?_
      · rcases Bool.eq_false_or_eq_true (((!(within ((l.getD k mk0).id) 1 1000000000)) || ((decide (0 < (k : Int))) && (decide (((l.getD k mk0).id) ≤ ((l.getD (((k : Int) - 1).toNat) mk0).id))))) || (decide (((l.getD k mk0).lo) < 0))) with hg14 | hg14
        · skip
          refine ogs rfl (isB_no hg14) rfl ?_
          refine ogs rfl (isB_no hg14) rfl ?_
          refine ogs rfl (isB_no hg14) rfl ?_
          refine ogs rfl (isB_no hg14) rfl ?_
          refine ogs rfl (isB_no hg14) rfl ?_
          refine ov rfl (fun w' h' => p_t rfl hg14 rfl) ?_
          exact mid_onil ⟨bcongr (or_t hg14), rfl, rfl, rfl, rfl, rfl, rfl, trivial⟩
        · skip
          refine ogv rfl hg14 rfl (fun w' h' => r_fld Try.underlying50 rfl rfl sz3 rfl) ?_
          refine ogv rfl hg14 rfl (fun w' h' => r_ldB Try.underlying3 rfl rfl ((hM.call h').at' (.head _)) rfl) ?_
          refine ogv rfl hg14 rfl (fun w' h' => r_fld Try.underlying50 rfl rfl sz3 rfl) ?_
          refine ogv rfl hg14 rfl (fun w' h' => r_ldB Try.underlying3 rfl rfl ((hM.call h').at' (.head _)) rfl) ?_
          refine ogv rfl hg14 rfl (fun w' h' => r_gtr rfl rfl) ?_
          refine ov rfl (fun w' h' => p_f rfl hg14 rfl) ?_
          exact mid_onil ⟨bcongr (or_f hg14), rfl, rfl, rfl, rfl, rfl, rfl, trivial⟩
      refine ov rfl (fun w' h' => r_move rfl) ?_
      refine wo_mid 5 [(58, (.bool (((((!(within ((l.getD k mk0).id) 1 1000000000)) || ((decide (0 < (k : Int))) && (decide (((l.getD k mk0).id) ≤ ((l.getD (((k : Int) - 1).toNat) mk0).id))))) || (decide (((l.getD k mk0).lo) < 0))) || (decide (((l.getD k mk0).hi) < ((l.getD k mk0).lo)))) || (decide (n < ((l.getD k mk0).hi)))))), (0, v_l), (1, (.int .i64 n)), (15, v_l), (16, (.int .i64 (l.length : Int))), (17, (.int .i64 (k : Int)))] ?_ ?_
      · rcases Bool.eq_false_or_eq_true ((((!(within ((l.getD k mk0).id) 1 1000000000)) || ((decide (0 < (k : Int))) && (decide (((l.getD k mk0).id) ≤ ((l.getD (((k : Int) - 1).toNat) mk0).id))))) || (decide (((l.getD k mk0).lo) < 0))) || (decide (((l.getD k mk0).hi) < ((l.getD k mk0).lo)))) with hg15 | hg15
        · skip
          refine ogs rfl (isB_no hg15) rfl ?_
          refine ogs rfl (isB_no hg15) rfl ?_
          refine ogs rfl (isB_no hg15) rfl ?_
          refine ogs rfl (isB_no hg15) rfl ?_
          refine ov rfl (fun w' h' => p_t rfl hg15 rfl) ?_
          exact mid_onil ⟨bcongr (or_t hg15), rfl, rfl, rfl, rfl, rfl, trivial⟩
        · skip
          refine ogv rfl hg15 rfl (fun w' h' => r_fld Try.underlying50 rfl rfl sz3 rfl) ?_
          refine ogv rfl hg15 rfl (fun w' h' => r_ldB Try.underlying3 rfl rfl ((hM.call h').at' (.head _)) rfl) ?_
          refine ogv rfl hg15 rfl (fun w' h' => r_move rfl) ?_
          refine ogv rfl hg15 rfl (fun w' h' => r_gtr rfl rfl) ?_
          refine ov rfl (fun w' h' => p_f rfl hg15 rfl) ?_
          exact mid_onil ⟨bcongr (or_f hg15), rfl, rfl, rfl, rfl, rfl, trivial⟩
      refine o_nil fun w16 hw17 => ?_
      have hM := hM.call hw17
      refine sq_n ?_
      refine wc_cond rfl (fun hc18 => ?_) (fun hc18 => ?_)
      · skip
        have hbad : markBad l n k = true := hc18
        refine wc_seq ?_
        refine wc_region ?_
        refine wv rfl (r_assign rfl) ?_
        refine wl_nil ?_
        refine sq_n ?_
        refine wc_ret ?_
        refine bk_ret ?_
        refine sq_ret ?_
        refine lp1_ret ?_
        refine bk_ret ?_
        refine sq_ret ?_
        refine fin_ret [(.bool false)] ⟨rfl, trivial⟩ ?_
        exact ⟨vbool (by rw [marksOk_no1 (by omega) hbad]), hM.rel⟩
      · skip
        have hc180 := hc18
        obtain ⟨hc18a, hc18b⟩ := (Bool.or_eq_false_iff).1 hc18
        obtain ⟨hc18aa, hc18ab⟩ := (Bool.or_eq_false_iff).1 hc18a
        obtain ⟨hc18aaa, hc18aab⟩ := (Bool.or_eq_false_iff).1 hc18aa
        obtain ⟨hc18aaaa, hc18aaab⟩ := (Bool.or_eq_false_iff).1 hc18aaa
        have hc18aaaa := bnot_f hc18aaaa
        have hc18aab := of_decide_eq_false hc18aab
        have hc18ab := of_decide_eq_false hc18ab
        have hc18b := of_decide_eq_false hc18b
        have hbad : markBad l n k = false := hc180
        refine wc_skip ?_
        refine bk_n ?_
        refine sq_n ?_
        refine wc_region ?_
        refine wv rfl (r_add rfl rfl ⟨by omega, by omega⟩) ?_
        refine wv rfl (r_move rfl) ?_
        refine wl_nil ?_
        have hM := hM.drop
        exact lp_end1 (k + 1) (by omega) ⟨rfl, rfl, rfl, rfl, rfl, trivial⟩ ⟨hM, (by omega), (range_all_step hf0_1 (by rw [hbad]; rfl))⟩
    · skip
      have hc7 := of_decide_eq_false hc7
      refine wc_exit ?_
      refine sq_exit ?_
      refine lp1_exit ?_
      refine bk_here ?_
      refine sq_n ?_
      refine wc_seq ?_
      refine wc_region ?_
      refine wv rfl (r_assign rfl) ?_
      refine wl_nil ?_
      refine sq_n ?_
      refine wc_ret ?_
      refine fin_ret [(.bool true)] ⟨rfl, trivial⟩ ?_
      exact ⟨vbool (by rw [marksOk_end (k := k) (by omega) (by omega) hf0_1, hya, decide_eq_true (by omega)]; rfl), hM.rel⟩

theorem ct_spec_MarksOk (w : World) (v_l : Value) (l : List Mk) (a_l : Arg w [v_l] (dFs 3 fM l)) (n : Int) : Ret Try.prog 14 [v_l, .int .i64 n] w (fun u w' => u = .bool (marksOk l n) ∧ Rel w w') := by
  refine enter Try.func14 rfl Try.ntmps14 (by kernel_rfl) rfl ?_
  have hM := St.init w
  have hM := hM.addA a_l
  have hl_l := Fs.le a_l
  refine wc_seq ?_
  refine wc_region ?_
  refine wv rfl (r_assign rfl) ?_
  refine wl_nil ?_
  refine sq_n ?_
  refine wc_seq ?_
  refine wc_seq ?_
  refine wc_region ?_
  refine wv rfl (r_move rfl) ?_
  refine wv rfl (r_lenF Try.underlying25 rfl (hM.arg (.head _))) ?_
  refine wv rfl (r_move rfl) ?_
  refine wl_nil ?_
  refine sq_n ?_
  refine wc_block ?_
  refine wc_loop1 (fun (k : Nat) => [(0, v_l), (1, (.int .i64 n)), (7, v_l), (8, (.int .i64 (l.length : Int))), (9, (.int .i64 (k : Int)))]) (fun (k : Nat) w' => St (b0 w) [] [([v_l], dFs 3 fM l)] w' ∧ k ≤ l.length ∧ ((List.range k).all fun i => !markBad l n i) = true) (fun (k : Nat) => l.length - k) 0 ⟨rfl, rfl, rfl, rfl, rfl, trivial⟩ ⟨hM, (by omega), (rfl)⟩ ?_
  rintro k w1 ⟨hM, hf0_0, hf0_1⟩
  refine wc_seq ?_
  refine wc_region ?_
  refine wv rfl (r_lss rfl rfl) ?_
  refine wl_nil ?_
  refine sq_n ?_
  refine wc_seq ?_
  refine wc_cond rfl (fun hc2 => ?_) (fun hc2 => ?_)
  · skip
    have hc2 := of_decide_eq_true hc2
    refine wc_skip ?_
    refine sq_n ?_
    refine wc_seq ?_
    refine wc_block ?_
    refine wc_seq ?_
    refine wc_region ?_
    refine wv rfl (r_move rfl) ?_
    refine wv rfl (r_ixF Try.underlying25 sz50 rfl rfl (hM.arg (.head _)) ⟨by omega, by omega⟩) ?_
    refine wv rfl (r_ldFS (i := k) mk0 Try.underlying50 sz50 (fun _ => rfl) rfl (hM.arg (.head _)) (by omega)) ?_
    refine w_alloc rfl sz50 hM ?_; intro b3 w4 hM
    refine wv rfl (r_assign rfl) ?_
    refine w_stB sz50 rfl rfl rfl hM rfl rfl ?_; intro w5 hM
    refine wl_nil ?_
    refine sq_n ?_
    refine wc_seq ?_
    refine wc_draw [(0, false), (1, false), (2, false), (3, false), (4, false), (5, false), (6, false), (7, false), (8, false), (9, false), (10, false), (11, false), (12, false), (13, false), (14, false), (15, false), (16, false), (17, false), (18, false), (19, false), (20, false), (21, false), (22, false), (23, false), (24, false), (25, false), (26, false), (27, false), (28, false), (29, false), (30, false), (31, false), (32, false), (33, false), (34, false), (35, false), (36, false)] Try_mixed (by kernel_rfl) rfl (by kernel_rfl) rfl ?_
    refine ov rfl (fun w' h' => r_fld Try.underlying50 rfl rfl sz3 rfl) ?_
    refine ov rfl (fun w' h' => r_ldB Try.underlying3 rfl rfl ((hM.call h').at' (.head _)) rfl) ?_
    refine oc rfl rfl (fun w' h' => ct_spec_l01In _ ((l.getD k mk0).id) (1 : Int) (1000000000 : Int)) ?_
    refine ov rfl (fun w' h' => r_not rfl) ?_
    refine ov rfl (fun w' h' => r_move rfl) ?_
    refine wo_mid 4 [(22, (.bool ((!(within ((l.getD k mk0).id) 1 1000000000)) || (decide (((l.getD k mk0).lo) < 0))))), (0, v_l), (1, (.int .i64 n)), (5, (.int .i64 (k : Int))), (6, (.pointer (some ⟨b3, 0, none⟩))), (7, v_l), (8, (.int .i64 (l.length : Int))), (9, (.int .i64 (k : Int)))] ?_ ?_
    · rcases Bool.eq_false_or_eq_true (!(within ((l.getD k mk0).id) 1 1000000000)) with hg6 | hg6
      · skip
        refine ogs rfl (isB_no hg6) rfl ?_
        refine ogs rfl (isB_no hg6) rfl ?_
        refine ogs rfl (isB_no hg6) rfl ?_
        refine ov rfl (fun w' h' => p_t rfl hg6 rfl) ?_
        exact mid_onil ⟨bcongr (or_t hg6), rfl, rfl, rfl, rfl, rfl, rfl, rfl, trivial⟩
      · skip
        refine ogv rfl hg6 rfl (fun w' h' => r_fld Try.underlying50 rfl rfl sz3 rfl) ?_
        refine ogv rfl hg6 rfl (fun w' h' => r_ldB Try.underlying3 rfl rfl ((hM.call h').at' (.head _)) rfl) ?_
        refine ogv rfl hg6 rfl (fun w' h' => r_lss rfl rfl) ?_
        refine ov rfl (fun w' h' => p_f rfl hg6 rfl) ?_
        exact mid_onil ⟨bcongr (or_f hg6), rfl, rfl, rfl, rfl, rfl, rfl, rfl, trivial⟩
    refine ov rfl (fun w' h' => r_move rfl) ?_
    refine wo_mid 6 [(29, (.bool (((!(within ((l.getD k mk0).id) 1 1000000000)) || (decide (((l.getD k mk0).lo) < 0))) || (decide (((l.getD k mk0).hi) < ((l.getD k mk0).lo)))))), (0, v_l), (1, (.int .i64 n)), (5, (.int .i64 (k : Int))), (6, (.pointer (some ⟨b3, 0, none⟩))), (7, v_l), (8, (.int .i64 (l.length : Int))), (9, (.int .i64 (k : Int)))] ?_ ?_
    · rcases Bool.eq_false_or_eq_true ((!(within ((l.getD k mk0).id) 1 1000000000)) || (decide (((l.getD k mk0).lo) < 0))) with hg7 | hg7
      · skip
        refine ogs rfl (isB_no hg7) rfl ?_
        refine ogs rfl (isB_no hg7) rfl ?_
        refine ogs rfl (isB_no hg7) rfl ?_
        refine ogs rfl (isB_no hg7) rfl ?_
        refine ogs rfl (isB_no hg7) rfl ?_
        refine ov rfl (fun w' h' => p_t rfl hg7 rfl) ?_
        exact mid_onil ⟨bcongr (or_t hg7), rfl, rfl, rfl, rfl, rfl, rfl, rfl, trivial⟩
      · skip
        refine ogv rfl hg7 rfl (fun w' h' => r_fld Try.underlying50 rfl rfl sz3 rfl) ?_
        refine ogv rfl hg7 rfl (fun w' h' => r_ldB Try.underlying3 rfl rfl ((hM.call h').at' (.head _)) rfl) ?_
        refine ogv rfl hg7 rfl (fun w' h' => r_fld Try.underlying50 rfl rfl sz3 rfl) ?_
        refine ogv rfl hg7 rfl (fun w' h' => r_ldB Try.underlying3 rfl rfl ((hM.call h').at' (.head _)) rfl) ?_
        refine ogv rfl hg7 rfl (fun w' h' => r_gtr rfl rfl) ?_
        refine ov rfl (fun w' h' => p_f rfl hg7 rfl) ?_
        exact mid_onil ⟨bcongr (or_f hg7), rfl, rfl, rfl, rfl, rfl, rfl, rfl, trivial⟩
    refine ov rfl (fun w' h' => r_move rfl) ?_
    refine wo_mid 5 [(35, (.bool ((((!(within ((l.getD k mk0).id) 1 1000000000)) || (decide (((l.getD k mk0).lo) < 0))) || (decide (((l.getD k mk0).hi) < ((l.getD k mk0).lo)))) || (decide (n < ((l.getD k mk0).hi)))))), (0, v_l), (1, (.int .i64 n)), (5, (.int .i64 (k : Int))), (6, (.pointer (some ⟨b3, 0, none⟩))), (7, v_l), (8, (.int .i64 (l.length : Int))), (9, (.int .i64 (k : Int)))] ?_ ?_
    · rcases Bool.eq_false_or_eq_true (((!(within ((l.getD k mk0).id) 1 1000000000)) || (decide (((l.getD k mk0).lo) < 0))) || (decide (((l.getD k mk0).hi) < ((l.getD k mk0).lo)))) with hg8 | hg8
      · skip
        refine ogs rfl (isB_no hg8) rfl ?_
        refine ogs rfl (isB_no hg8) rfl ?_
        refine ogs rfl (isB_no hg8) rfl ?_
        refine ogs rfl (isB_no hg8) rfl ?_
        refine ov rfl (fun w' h' => p_t rfl hg8 rfl) ?_
        exact mid_onil ⟨bcongr (or_t hg8), rfl, rfl, rfl, rfl, rfl, rfl, rfl, trivial⟩
      · skip
        refine ogv rfl hg8 rfl (fun w' h' => r_fld Try.underlying50 rfl rfl sz3 rfl) ?_
        refine ogv rfl hg8 rfl (fun w' h' => r_ldB Try.underlying3 rfl rfl ((hM.call h').at' (.head _)) rfl) ?_
        refine ogv rfl hg8 rfl (fun w' h' => r_move rfl) ?_
        refine ogv rfl hg8 rfl (fun w' h' => r_gtr rfl rfl) ?_
        refine ov rfl (fun w' h' => p_f rfl hg8 rfl) ?_
        exact mid_onil ⟨bcongr (or_f hg8), rfl, rfl, rfl, rfl, rfl, rfl, rfl, trivial⟩
    refine ov rfl (fun w' h' => r_move rfl) ?_
    refine wo_mid 14 [(50, (.bool (((((!(within ((l.getD k mk0).id) 1 1000000000)) || (decide (((l.getD k mk0).lo) < 0))) || (decide (((l.getD k mk0).hi) < ((l.getD k mk0).lo)))) || (decide (n < ((l.getD k mk0).hi)))) || ((decide (0 < (k : Int))) && (decide (((l.getD k mk0).id) ≤ ((l.getD (((k : Int) - 1).toNat) mk0).id))))))), (0, v_l), (1, (.int .i64 n)), (7, v_l), (8, (.int .i64 (l.length : Int))), (9, (.int .i64 (k : Int)))] ?_ ?_
    · rcases Bool.eq_false_or_eq_true ((((!(within ((l.getD k mk0).id) 1 1000000000)) || (decide (((l.getD k mk0).lo) < 0))) || (decide (((l.getD k mk0).hi) < ((l.getD k mk0).lo)))) || (decide (n < ((l.getD k mk0).hi)))) with hg9 | hg9
      · skip
        refine ogs rfl (isB_no hg9) rfl ?_
        refine ogs rfl (isB_no hg9) rfl ?_
        refine ogs rfl (isB_no hg9) rfl ?_
        refine ogs rfl rfl rfl ?_
        refine ogs rfl rfl rfl ?_
        refine ogs rfl rfl rfl ?_
        refine ogs rfl rfl rfl ?_
        refine ogs rfl rfl rfl ?_
        refine ogs rfl rfl rfl ?_
        refine ogs rfl rfl rfl ?_
        refine ogs rfl rfl rfl ?_
        refine ogs rfl rfl rfl ?_
        refine ogs rfl (isB_no hg9) rfl ?_
        refine ov rfl (fun w' h' => p_t rfl hg9 rfl) ?_
        exact mid_onil ⟨bcongr (or_t hg9), rfl, rfl, rfl, rfl, rfl, trivial⟩
      · skip
        refine ogv rfl hg9 rfl (fun w' h' => r_move rfl) ?_
        refine ogv rfl hg9 rfl (fun w' h' => r_gtr rfl rfl) ?_
        refine ogv rfl hg9 rfl (fun w' h' => r_move rfl) ?_
        refine wo_mid 10 [(49, (.bool ((decide (0 < (k : Int))) && (decide (((l.getD k mk0).id) ≤ ((l.getD (((k : Int) - 1).toNat) mk0).id)))))), (0, v_l), (1, (.int .i64 n)), (7, v_l), (8, (.int .i64 (l.length : Int))), (9, (.int .i64 (k : Int))), (36, (.bool ((((!(within ((l.getD k mk0).id) 1 1000000000)) || (decide (((l.getD k mk0).lo) < 0))) || (decide (((l.getD k mk0).hi) < ((l.getD k mk0).lo)))) || (decide (n < ((l.getD k mk0).hi)))))), (37, (.int .i64 (k : Int))), (38, (.bool (decide (0 < (k : Int))))), (39, (.bool (decide (0 < (k : Int)))))] ?_ ?_
        · rcases Bool.eq_false_or_eq_true (decide (0 < (k : Int))) with hg10 | hg10
          · skip
            have hg10p := of_decide_eq_true hg10
            refine ogv rfl hg10 rfl (fun w' h' => r_move rfl) ?_
            refine ogv rfl hg10 rfl (fun w' h' => r_move rfl) ?_
            refine ogv rfl hg10 rfl (fun w' h' => r_sub rfl rfl ⟨by omega, by omega⟩) ?_
            refine ogv rfl hg10 rfl (fun w' h' => r_ixF Try.underlying25 sz50 rfl rfl ((hM.call h').arg (.head _)) ⟨by omega, by omega⟩) ?_
            refine ogv rfl hg10 rfl (fun w' h' => r_fldF (i := (((k : Int) - 1).toNat)) Try.underlying50 rfl rfl sz3 rfl ((hM.call h').arg (.head _)) (by omega)) ?_
            refine ogv rfl hg10 rfl (fun w' h' => r_ldF (i := (((k : Int) - 1).toNat)) (j := 0) mk0 Try.underlying3 rfl rfl ((hM.call h').arg (.head _)) (by omega) rfl) ?_
            refine ogv rfl hg10 rfl (fun w' h' => r_fld Try.underlying50 rfl rfl sz3 rfl) ?_
            refine ogv rfl hg10 rfl (fun w' h' => r_ldB Try.underlying3 rfl rfl ((hM.call h').at' (.head _)) rfl) ?_
            refine ogv rfl hg10 rfl (fun w' h' => r_geq rfl rfl) ?_
            refine ogv rfl hg9 rfl (fun w' h' => p_t rfl hg10 rfl) ?_
            exact mid_onil ⟨bcongr (and_t hg10), rfl, rfl, rfl, rfl, rfl, rfl, rfl, rfl, rfl, trivial⟩
          · skip
            have hg10p := of_decide_eq_false hg10
            refine ogs rfl (isB_no hg10) rfl ?_
            refine ogs rfl (isB_no hg10) rfl ?_
            refine ogs rfl (isB_no hg10) rfl ?_
            refine ogs rfl (isB_no hg10) rfl ?_
            refine ogs rfl (isB_no hg10) rfl ?_
            refine ogs rfl (isB_no hg10) rfl ?_
            refine ogs rfl (isB_no hg10) rfl ?_
            refine ogs rfl (isB_no hg10) rfl ?_
            refine ogs rfl (isB_no hg10) rfl ?_
            refine ogv rfl hg9 rfl (fun w' h' => p_f rfl hg10 rfl) ?_
            exact mid_onil ⟨bcongr (and_f hg10), rfl, rfl, rfl, rfl, rfl, rfl, rfl, rfl, rfl, trivial⟩
        refine ov rfl (fun w' h' => p_f rfl hg9 rfl) ?_
        exact mid_onil ⟨bcongr (or_f hg9), rfl, rfl, rfl, rfl, rfl, trivial⟩
    refine o_nil fun w11 hw12 => ?_
    have hM := hM.call hw12
    refine sq_n ?_
    refine wc_cond rfl (fun hc13 => ?_) (fun hc13 => ?_)
    · skip
      have hbad : markBad l n k = true := by rw [← markBad_spec]; exact hc13
      refine wc_seq ?_
      refine wc_region ?_
      refine wv rfl (r_assign rfl) ?_
      refine wl_nil ?_
      refine sq_n ?_
      refine wc_ret ?_
      refine bk_ret ?_
      refine sq_ret ?_
      refine lp1_ret ?_
      refine bk_ret ?_
      refine sq_ret ?_
      refine fin_ret [(.bool false)] ⟨rfl, trivial⟩ ?_
      exact ⟨vbool (by rw [marksOk_no1 (by omega) hbad]), hM.rel⟩
    · skip
      have hc130 := hc13
      obtain ⟨hc13a, hc13b⟩ := (Bool.or_eq_false_iff).1 hc13
      obtain ⟨hc13aa, hc13ab⟩ := (Bool.or_eq_false_iff).1 hc13a
      obtain ⟨hc13aaa, hc13aab⟩ := (Bool.or_eq_false_iff).1 hc13aa
      obtain ⟨hc13aaaa, hc13aaab⟩ := (Bool.or_eq_false_iff).1 hc13aaa
      have hc13aaaa := bnot_f hc13aaaa
      have hc13aaab := of_decide_eq_false hc13aaab
      have hc13aab := of_decide_eq_false hc13aab
      have hc13ab := of_decide_eq_false hc13ab
      have hbad : markBad l n k = false := by rw [← markBad_spec]; exact hc130
      refine wc_skip ?_
      refine bk_n ?_
      refine sq_n ?_
      refine wc_region ?_
      refine wv rfl (r_add rfl rfl ⟨by omega, by omega⟩) ?_
      refine wv rfl (r_move rfl) ?_
      refine wl_nil ?_
      have hM := hM.drop
      exact lp_end1 (k + 1) (by omega) ⟨rfl, rfl, rfl, rfl, rfl, trivial⟩ ⟨hM, (by omega), (range_all_step hf0_1 (by rw [hbad]; rfl))⟩
  · skip
    have hc2 := of_decide_eq_false hc2
    refine wc_exit ?_
    refine sq_exit ?_
    refine lp1_exit ?_
    refine bk_here ?_
    refine sq_n ?_
    refine wc_seq ?_
    refine wc_region ?_
    refine wv rfl (r_move rfl) ?_
    refine w_call rfl rfl (ct_spec_l01In _ n (0 : Int) (200 : Int)) ?_
    rintro _ w14 ⟨rfl, hR15⟩
    have hM := hM.call hR15
    refine wv rfl (r_move rfl) ?_
    refine wl_mid 4 (fun _ : Unit => [(58, (.bool ((within n 0 200) && (decide ((l.length : Int) ≤ 12)))))]) (fun _ w' => St (b0 w) [] [([v_l], dFs 3 fM l)] w') ?_ ?_
    · rcases Bool.eq_false_or_eq_true (within n 0 200) with hg16 | hg16
      · skip
        refine gv rfl hg16 rfl (r_move rfl) ?_
        refine gv rfl hg16 rfl (r_lenF Try.underlying25 rfl (hM.arg (.head _))) ?_
        refine gv rfl hg16 rfl (r_leq rfl rfl) ?_
        refine wv rfl (p_t rfl hg16 rfl) ?_
        exact mid_nil () ⟨bcongr (and_t hg16), trivial⟩ hM
      · skip
        refine gs rfl (isB_no hg16) rfl ?_
        refine gs rfl (isB_no hg16) rfl ?_
        refine gs rfl (isB_no hg16) rfl ?_
        refine wv rfl (p_f rfl hg16 rfl) ?_
        exact mid_nil () ⟨bcongr (and_f hg16), trivial⟩ hM
    rintro _ w17 hM
    refine wv rfl (r_assign rfl) ?_
    refine wl_nil ?_
    refine sq_n ?_
    refine wc_ret ?_
    refine fin_ret [(.bool ((within n 0 200) && (decide ((l.length : Int) ≤ 12))))] ⟨rfl, trivial⟩ ?_
    exact ⟨vbool (by rw [marksOk_end (k := k) (by omega) (by omega) hf0_1]), hM.rel⟩

theorem ct_impl_MarkDrop (w : World) (v_l : Value) (l : List Mk) (a_l : Arg w [v_l] (dFs 3 fM l)) (id : Int) (hp0 : (l.length : Int) ≤ 1048576) : Ret Try.prog 29 [v_l, .int .i64 id] w (fun u w' => Rel w w' ∧ w'.ownsRow w.heap.size 50 3 u (markDrop l id).length ((markDrop l id).flatMap fM)) := by
  refine enter Try.func29 rfl Try.ntmps29 (by kernel_rfl) rfl ?_
  have hM := St.init w
  have hM := hM.addA a_l
  have hl_l := Fs.le a_l
  refine wc_seq ?_
  refine wc_region ?_
  refine wv rfl (r_assign rfl) ?_
  refine wl_nil ?_
  refine sq_n ?_
  refine wc_seq ?_
  refine wc_region ?_
  refine wv rfl (r_assign rfl) ?_
  refine wl_nil ?_
  refine sq_n ?_
  refine wc_seq ?_
  refine wc_seq ?_
  refine wc_region ?_
  refine wv rfl (r_move rfl) ?_
  refine wv rfl (r_lenF Try.underlying25 rfl (hM.arg (.head _))) ?_
  refine wv rfl (r_move rfl) ?_
  refine wl_nil ?_
  refine sq_n ?_
  refine wc_block ?_
  have hM := hM.nilF (T := Mk) 50 3 fM
  refine wc_loop2 (fun (k : Nat) (v : Value) => [(1, (.int .i64 id)), (5, v), (8, v_l), (9, (.int .i64 (l.length : Int))), (10, (.int .i64 (k : Int)))]) (fun (k : Nat) (v : Value) w' => St (b0 w) [oF v 50 3 fM (markDrop (l.take k) id)] [([v_l], dFs 3 fM l)] w' ∧ k ≤ l.length) (fun (k : Nat) (v : Value) => l.length - k) 0 (.slice none 0 0) ⟨rfl, rfl, rfl, rfl, rfl, trivial⟩ ⟨hM, (by omega)⟩ ?_
  rintro k v w3 ⟨hM, hf0_0⟩
  have hpl := drop_len l id k
  refine wc_seq ?_
  refine wc_region ?_
  refine wv rfl (r_lss rfl rfl) ?_
  refine wl_nil ?_
  refine sq_n ?_
  refine wc_seq ?_
  refine wc_cond rfl (fun hc4 => ?_) (fun hc4 => ?_)
  · skip
    have hc4 := of_decide_eq_true hc4
    refine wc_skip ?_
    refine sq_n ?_
    refine wc_seq ?_
    refine wc_block ?_
    refine wc_seq ?_
    refine wc_region ?_
    refine wv rfl (r_ixF Try.underlying25 sz50 rfl rfl (hM.arg (.head _)) ⟨by omega, by omega⟩) ?_
    refine wv rfl (r_ldFS (i := k) mk0 Try.underlying50 sz50 (fun _ => rfl) rfl (hM.arg (.head _)) (by omega)) ?_
    refine w_alloc rfl sz50 hM ?_; intro b5 w6 hM
    refine w_stB sz50 rfl rfl rfl hM rfl rfl ?_; intro w7 hM
    refine wl_nil ?_
    refine sq_n ?_
    refine wc_seq ?_
    refine wc_region ?_
    refine wv rfl (r_fld Try.underlying50 rfl rfl sz3 rfl) ?_
    refine wv rfl (r_ldB Try.underlying3 rfl rfl (hM.at' (.head _)) rfl) ?_
    refine wv rfl (r_move rfl) ?_
    refine wv rfl (r_neq rfl rfl) ?_
    refine wl_nil ?_
    refine sq_n ?_
    refine wc_cond rfl (fun hc8 => ?_) (fun hc8 => ?_)
    · skip
      have hc8 := bnot_t hc8
      have hc8 := of_decide_eq_false hc8
      refine wc_region ?_
      refine wv rfl (r_move rfl) ?_
      refine wv rfl (r_ldBS Try.underlying50 sz50 rfl (cs := [(.int .i64 ((l.getD k mk0).id)), (.int .i64 ((l.getD k mk0).lo)), (.int .i64 ((l.getD k mk0).hi))]) rfl (hM.at' (.head _))) ?_
      have hM := hM.swap
      refine w_pushF (f := fM) (l.getD k mk0) rfl rfl Try.underlying25 sz50 rfl rfl rfl rfl rfl (fun _ => rfl) hM (by simp only [maxLen]; omega) (by omega) ?_; intro u11 v10 w9 hM
      refine wv rfl (r_assign rfl) ?_
      refine wl_nil ?_
      refine bk_n ?_
      refine sq_n ?_
      refine wc_region ?_
      refine wv rfl (r_add rfl rfl ⟨by omega, by omega⟩) ?_
      refine wv rfl (r_move rfl) ?_
      refine wl_nil ?_
      have hM := hM.swap
      have hM := hM.drop
      exact lp_end2 (k + 1) v10 (by omega) ⟨rfl, rfl, rfl, rfl, rfl, trivial⟩ ⟨(hM.reL (drop_keep (by omega) (by assumption))), (by omega)⟩
    · skip
      have hc8 := bnot_f hc8
      have hc8 := of_decide_eq_true hc8
      refine wc_skip ?_
      refine bk_n ?_
      refine sq_n ?_
      refine wc_region ?_
      refine wv rfl (r_add rfl rfl ⟨by omega, by omega⟩) ?_
      refine wv rfl (r_move rfl) ?_
      refine wl_nil ?_
      have hM := hM.drop
      exact lp_end2 (k + 1) v (by omega) ⟨rfl, rfl, rfl, rfl, rfl, trivial⟩ ⟨(hM.reL (drop_skip (by omega) (by assumption))), (by omega)⟩
  · skip
    have hc4 := of_decide_eq_false hc4
    refine wc_exit ?_
    refine sq_exit ?_
    refine lp2_exit ?_
    refine bk_here ?_
    refine sq_n ?_
    refine wc_seq ?_
    refine wc_region ?_
    refine wv rfl (r_move rfl) ?_
    refine wv rfl (r_assign rfl) ?_
    refine wl_nil ?_
    refine sq_n ?_
    refine wc_ret ?_
    refine fin_ret [v] ⟨rfl, trivial⟩ ?_
    have ho0 := hM.ownR
    rw [show markDrop (l.take k) id = markDrop l id from by rw [List.take_of_length_le (by omega)]] at ho0
    exact ⟨hM.rel, ho0⟩

theorem ct_spec_MarkDrop (w : World) (v_l : Value) (l : List Mk) (a_l : Arg w [v_l] (dFs 3 fM l)) (id : Int) (hp0 : (l.length : Int) ≤ 1048576) : Ret Try.prog 28 [v_l, .int .i64 id] w (fun u w' => Rel w w' ∧ w'.ownsRow w.heap.size 50 3 u (markDrop l id).length ((markDrop l id).flatMap fM)) := by
  refine enter Try.func28 rfl Try.ntmps28 (by kernel_rfl) rfl ?_
  have hM := St.init w
  have hM := hM.addA a_l
  have hl_l := Fs.le a_l
  refine wc_seq ?_
  refine wc_region ?_
  refine wv rfl (r_assign rfl) ?_
  refine wl_nil ?_
  refine sq_n ?_
  refine wc_seq ?_
  refine wc_region ?_
  refine w_emptyF (f := fM) rfl Try.underlying25 sz50 hM ?_; intro v2 w1 hM
  refine wv rfl (r_assign rfl) ?_
  refine wl_nil ?_
  refine sq_n ?_
  refine wc_seq ?_
  refine wc_seq ?_
  refine wc_region ?_
  refine wv rfl (r_move rfl) ?_
  refine wv rfl (r_lenF Try.underlying25 rfl (hM.arg (.head _))) ?_
  refine wv rfl (r_move rfl) ?_
  refine wl_nil ?_
  refine sq_n ?_
  refine wc_block ?_
  refine wc_loop2 (fun (k : Nat) (v : Value) => [(1, (.int .i64 id)), (5, v), (9, v_l), (10, (.int .i64 (l.length : Int))), (11, (.int .i64 (k : Int)))]) (fun (k : Nat) (v : Value) w' => St (b0 w) [oF v 50 3 fM (markDrop (l.take k) id)] [([v_l], dFs 3 fM l)] w' ∧ k ≤ l.length) (fun (k : Nat) (v : Value) => l.length - k) 0 v2 ⟨rfl, rfl, rfl, rfl, rfl, trivial⟩ ⟨hM, (by omega)⟩ ?_
  rintro k v w4 ⟨hM, hf0_0⟩
  have hpl := drop_len l id k
  refine wc_seq ?_
  refine wc_region ?_
  refine wv rfl (r_lss rfl rfl) ?_
  refine wl_nil ?_
  refine sq_n ?_
  refine wc_seq ?_
  refine wc_cond rfl (fun hc5 => ?_) (fun hc5 => ?_)
  · skip
    have hc5 := of_decide_eq_true hc5
    refine wc_skip ?_
    refine sq_n ?_
    refine wc_seq ?_
    refine wc_block ?_
    refine wc_seq ?_
    refine wc_region ?_
    refine wv rfl (r_ixF Try.underlying25 sz50 rfl rfl (hM.arg (.head _)) ⟨by omega, by omega⟩) ?_
    refine wv rfl (r_ldFS (i := k) mk0 Try.underlying50 sz50 (fun _ => rfl) rfl (hM.arg (.head _)) (by omega)) ?_
    refine w_alloc rfl sz50 hM ?_; intro b6 w7 hM
    refine w_stB sz50 rfl rfl rfl hM rfl rfl ?_; intro w8 hM
    refine wl_nil ?_
    refine sq_n ?_
    refine wc_seq ?_
    refine wc_region ?_
    refine wv rfl (r_fld Try.underlying50 rfl rfl sz3 rfl) ?_
    refine wv rfl (r_ldB Try.underlying3 rfl rfl (hM.at' (.head _)) rfl) ?_
    refine wv rfl (r_move rfl) ?_
    refine wv rfl (r_neq rfl rfl) ?_
    refine wl_nil ?_
    refine sq_n ?_
    refine wc_cond rfl (fun hc9 => ?_) (fun hc9 => ?_)
    · skip
      have hc9 := bnot_t hc9
      have hc9 := of_decide_eq_false hc9
      refine wc_region ?_
      refine wv rfl (r_move rfl) ?_
      refine wv rfl (r_ldBS Try.underlying50 sz50 rfl (cs := [(.int .i64 ((l.getD k mk0).id)), (.int .i64 ((l.getD k mk0).lo)), (.int .i64 ((l.getD k mk0).hi))]) rfl (hM.at' (.head _))) ?_
      have hM := hM.swap
      refine w_pushF (f := fM) (l.getD k mk0) rfl rfl Try.underlying25 sz50 rfl rfl rfl rfl rfl (fun _ => rfl) hM (by simp only [maxLen]; omega) (by omega) ?_; intro u12 v11 w10 hM
      refine wv rfl (r_assign rfl) ?_
      refine wl_nil ?_
      refine bk_n ?_
      refine sq_n ?_
      refine wc_region ?_
      refine wv rfl (r_add rfl rfl ⟨by omega, by omega⟩) ?_
      refine wv rfl (r_move rfl) ?_
      refine wl_nil ?_
      have hM := hM.swap
      have hM := hM.drop
      exact lp_end2 (k + 1) v11 (by omega) ⟨rfl, rfl, rfl, rfl, rfl, trivial⟩ ⟨(hM.reL (drop_keep (by omega) (by assumption))), (by omega)⟩
    · skip
      have hc9 := bnot_f hc9
      have hc9 := of_decide_eq_true hc9
      refine wc_skip ?_
      refine bk_n ?_
      refine sq_n ?_
      refine wc_region ?_
      refine wv rfl (r_add rfl rfl ⟨by omega, by omega⟩) ?_
      refine wv rfl (r_move rfl) ?_
      refine wl_nil ?_
      have hM := hM.drop
      exact lp_end2 (k + 1) v (by omega) ⟨rfl, rfl, rfl, rfl, rfl, trivial⟩ ⟨(hM.reL (drop_skip (by omega) (by assumption))), (by omega)⟩
  · skip
    have hc5 := of_decide_eq_false hc5
    refine wc_exit ?_
    refine sq_exit ?_
    refine lp2_exit ?_
    refine bk_here ?_
    refine sq_n ?_
    refine wc_seq ?_
    refine wc_region ?_
    refine wv rfl (r_move rfl) ?_
    refine wv rfl (r_assign rfl) ?_
    refine wl_nil ?_
    refine sq_n ?_
    refine wc_ret ?_
    refine fin_ret [v] ⟨rfl, trivial⟩ ?_
    have ho0 := hM.ownR
    rw [show markDrop (l.take k) id = markDrop l id from by rw [List.take_of_length_le (by omega)]] at ho0
    exact ⟨hM.rel, ho0⟩

theorem ct_impl_MarksAt (w : World) (v_l : Value) (l : List Mk) (a_l : Arg w [v_l] (dFs 3 fM l)) (p : Int) (hp0 : (l.length : Int) ≤ 1048576) : Ret Try.prog 35 [v_l, .int .i64 p] w (fun u w' => Rel w w' ∧ w'.ownsRow w.heap.size 3 1 u (marksAt l p).length ((marksAt l p).flatMap fI)) := by
  refine enter Try.func35 rfl Try.ntmps35 (by kernel_rfl) rfl ?_
  have hM := St.init w
  have hM := hM.addA a_l
  have hl_l := Fs.le a_l
  refine wc_seq ?_
  refine wc_region ?_
  refine wv rfl (r_assign rfl) ?_
  refine wl_nil ?_
  refine sq_n ?_
  refine wc_seq ?_
  refine wc_region ?_
  refine wv rfl (r_assign rfl) ?_
  refine wl_nil ?_
  refine sq_n ?_
  refine wc_seq ?_
  refine wc_seq ?_
  refine wc_region ?_
  refine wv rfl (r_move rfl) ?_
  refine wv rfl (r_lenF Try.underlying25 rfl (hM.arg (.head _))) ?_
  refine wv rfl (r_move rfl) ?_
  refine wl_nil ?_
  refine sq_n ?_
  refine wc_block ?_
  have hM := hM.nilF (T := Int) 3 1 fI
  refine wc_loop2 (fun (k : Nat) (v : Value) => [(1, (.int .i64 p)), (5, v), (8, v_l), (9, (.int .i64 (l.length : Int))), (10, (.int .i64 (k : Int)))]) (fun (k : Nat) (v : Value) w' => St (b0 w) [oF v 3 1 fI (marksAt (l.take k) p)] [([v_l], dFs 3 fM l)] w' ∧ k ≤ l.length) (fun (k : Nat) (v : Value) => l.length - k) 0 (.slice none 0 0) ⟨rfl, rfl, rfl, rfl, rfl, trivial⟩ ⟨hM, (by omega)⟩ ?_
  rintro k v w3 ⟨hM, hf0_0⟩
  have hpl := at_len l p k
  refine wc_seq ?_
  refine wc_region ?_
  refine wv rfl (r_lss rfl rfl) ?_
  refine wl_nil ?_
  refine sq_n ?_
  refine wc_seq ?_
  refine wc_cond rfl (fun hc4 => ?_) (fun hc4 => ?_)
  · skip
    have hc4 := of_decide_eq_true hc4
    refine wc_skip ?_
    refine sq_n ?_
    refine wc_seq ?_
    refine wc_block ?_
    refine wc_seq ?_
    refine wc_region ?_
    refine wv rfl (r_ixF Try.underlying25 sz50 rfl rfl (hM.arg (.head _)) ⟨by omega, by omega⟩) ?_
    refine wv rfl (r_ldFS (i := k) mk0 Try.underlying50 sz50 (fun _ => rfl) rfl (hM.arg (.head _)) (by omega)) ?_
    refine w_alloc rfl sz50 hM ?_; intro b5 w6 hM
    refine w_stB sz50 rfl rfl rfl hM rfl rfl ?_; intro w7 hM
    refine wl_nil ?_
    refine sq_n ?_
    refine wc_seq ?_
    refine wc_region ?_
    refine wv rfl (r_fld Try.underlying50 rfl rfl sz3 rfl) ?_
    refine wv rfl (r_ldB Try.underlying3 rfl rfl (hM.at' (.head _)) rfl) ?_
    refine wv rfl (r_move rfl) ?_
    refine wv rfl (r_leq rfl rfl) ?_
    refine wv rfl (r_move rfl) ?_
    refine wl_mid 5 (fun _ : Unit => [(23, (.bool ((decide (((l.getD k mk0).lo) ≤ p)) && (decide (p < ((l.getD k mk0).hi)))))), (1, (.int .i64 p)), (5, v), (7, (.pointer (some ⟨b5, 0, none⟩))), (8, v_l), (9, (.int .i64 (l.length : Int))), (10, (.int .i64 (k : Int)))]) (fun _ w' => St (b0 w) [oBox b5 #[(.int .i64 ((l.getD k mk0).id)), (.int .i64 ((l.getD k mk0).lo)), (.int .i64 ((l.getD k mk0).hi))] 50, oF v 3 1 fI (marksAt (l.take k) p)] [([v_l], dFs 3 fM l)] w') ?_ ?_
    · rcases Bool.eq_false_or_eq_true (decide (((l.getD k mk0).lo) ≤ p)) with hg8 | hg8
      · skip
        have hg8p := of_decide_eq_true hg8
        refine gv rfl hg8 rfl (r_move rfl) ?_
        refine gv rfl hg8 rfl (r_fld Try.underlying50 rfl rfl sz3 rfl) ?_
        refine gv rfl hg8 rfl (r_ldB Try.underlying3 rfl rfl (hM.at' (.head _)) rfl) ?_
        refine gv rfl hg8 rfl (r_lss rfl rfl) ?_
        refine wv rfl (p_t rfl hg8 rfl) ?_
        exact mid_nil () ⟨bcongr (and_t hg8), rfl, rfl, rfl, rfl, rfl, rfl, trivial⟩ hM
      · skip
        have hg8p := of_decide_eq_false hg8
        refine gs rfl (isB_no hg8) rfl ?_
        refine gs rfl (isB_no hg8) rfl ?_
        refine gs rfl (isB_no hg8) rfl ?_
        refine gs rfl (isB_no hg8) rfl ?_
        refine wv rfl (p_f rfl hg8 rfl) ?_
        exact mid_nil () ⟨bcongr (and_f hg8), rfl, rfl, rfl, rfl, rfl, rfl, trivial⟩ hM
    rintro _ w9 hM
    refine wl_nil ?_
    refine sq_n ?_
    refine wc_cond rfl (fun hc10 => ?_) (fun hc10 => ?_)
    · skip
      obtain ⟨hc10a, hc10b⟩ := (Bool.and_eq_true_iff).1 hc10
      have hc10a := of_decide_eq_true hc10a
      have hc10b := of_decide_eq_true hc10b
      refine wc_region ?_
      refine wv rfl (r_move rfl) ?_
      refine wv rfl (r_fld Try.underlying50 rfl rfl sz3 rfl) ?_
      refine wv rfl (r_ldB Try.underlying3 rfl rfl (hM.at' (.head _)) rfl) ?_
      have hM := hM.swap
      refine w_pushF (f := fI) ((l.getD k mk0).id) rfl rfl Try.underlying29 sz3 rfl rfl rfl rfl rfl (fun _ => rfl) hM (by simp only [maxLen]; omega) (by omega) ?_; intro u13 v12 w11 hM
      refine wv rfl (r_assign rfl) ?_
      refine wl_nil ?_
      refine bk_n ?_
      refine sq_n ?_
      refine wc_region ?_
      refine wv rfl (r_add rfl rfl ⟨by omega, by omega⟩) ?_
      refine wv rfl (r_move rfl) ?_
      refine wl_nil ?_
      have hM := hM.swap
      have hM := hM.drop
      exact lp_end2 (k + 1) v12 (by omega) ⟨rfl, rfl, rfl, rfl, rfl, trivial⟩ ⟨(hM.reL (at_keep (by omega) (by assumption))), (by omega)⟩
    · skip
      refine wc_skip ?_
      refine bk_n ?_
      refine sq_n ?_
      refine wc_region ?_
      refine wv rfl (r_add rfl rfl ⟨by omega, by omega⟩) ?_
      refine wv rfl (r_move rfl) ?_
      refine wl_nil ?_
      have hM := hM.drop
      exact lp_end2 (k + 1) v (by omega) ⟨rfl, rfl, rfl, rfl, rfl, trivial⟩ ⟨(hM.reL (at_skip (by omega) (by assumption))), (by omega)⟩
  · skip
    have hc4 := of_decide_eq_false hc4
    refine wc_exit ?_
    refine sq_exit ?_
    refine lp2_exit ?_
    refine bk_here ?_
    refine sq_n ?_
    refine wc_seq ?_
    refine wc_region ?_
    refine wv rfl (r_move rfl) ?_
    refine wv rfl (r_assign rfl) ?_
    refine wl_nil ?_
    refine sq_n ?_
    refine wc_ret ?_
    refine fin_ret [v] ⟨rfl, trivial⟩ ?_
    have ho0 := hM.ownR
    rw [show marksAt (l.take k) p = marksAt l p from by rw [List.take_of_length_le (by omega)]] at ho0
    exact ⟨hM.rel, ho0⟩

theorem ct_spec_MarksAt (w : World) (v_l : Value) (l : List Mk) (a_l : Arg w [v_l] (dFs 3 fM l)) (p : Int) (hp0 : (l.length : Int) ≤ 1048576) : Ret Try.prog 34 [v_l, .int .i64 p] w (fun u w' => Rel w w' ∧ w'.ownsRow w.heap.size 3 1 u (marksAt l p).length ((marksAt l p).flatMap fI)) := by
  refine enter Try.func34 rfl Try.ntmps34 (by kernel_rfl) rfl ?_
  have hM := St.init w
  have hM := hM.addA a_l
  have hl_l := Fs.le a_l
  refine wc_seq ?_
  refine wc_region ?_
  refine wv rfl (r_assign rfl) ?_
  refine wl_nil ?_
  refine sq_n ?_
  refine wc_seq ?_
  refine wc_region ?_
  refine w_emptyF (f := fI) rfl Try.underlying29 sz3 hM ?_; intro v2 w1 hM
  refine wv rfl (r_assign rfl) ?_
  refine wl_nil ?_
  refine sq_n ?_
  refine wc_seq ?_
  refine wc_seq ?_
  refine wc_region ?_
  refine wv rfl (r_move rfl) ?_
  refine wv rfl (r_lenF Try.underlying25 rfl (hM.arg (.head _))) ?_
  refine wv rfl (r_move rfl) ?_
  refine wl_nil ?_
  refine sq_n ?_
  refine wc_block ?_
  refine wc_loop2 (fun (k : Nat) (v : Value) => [(1, (.int .i64 p)), (5, v), (9, v_l), (10, (.int .i64 (l.length : Int))), (11, (.int .i64 (k : Int)))]) (fun (k : Nat) (v : Value) w' => St (b0 w) [oF v 3 1 fI (marksAt (l.take k) p)] [([v_l], dFs 3 fM l)] w' ∧ k ≤ l.length) (fun (k : Nat) (v : Value) => l.length - k) 0 v2 ⟨rfl, rfl, rfl, rfl, rfl, trivial⟩ ⟨hM, (by omega)⟩ ?_
  rintro k v w4 ⟨hM, hf0_0⟩
  have hpl := at_len l p k
  refine wc_seq ?_
  refine wc_region ?_
  refine wv rfl (r_lss rfl rfl) ?_
  refine wl_nil ?_
  refine sq_n ?_
  refine wc_seq ?_
  refine wc_cond rfl (fun hc5 => ?_) (fun hc5 => ?_)
  · skip
    have hc5 := of_decide_eq_true hc5
    refine wc_skip ?_
    refine sq_n ?_
    refine wc_seq ?_
    refine wc_block ?_
    refine wc_seq ?_
    refine wc_region ?_
    refine wv rfl (r_ixF Try.underlying25 sz50 rfl rfl (hM.arg (.head _)) ⟨by omega, by omega⟩) ?_
    refine wv rfl (r_ldFS (i := k) mk0 Try.underlying50 sz50 (fun _ => rfl) rfl (hM.arg (.head _)) (by omega)) ?_
    refine w_alloc rfl sz50 hM ?_; intro b6 w7 hM
    refine w_stB sz50 rfl rfl rfl hM rfl rfl ?_; intro w8 hM
    refine wl_nil ?_
    refine sq_n ?_
    refine wc_seq ?_
    refine wc_region ?_
    refine wv rfl (r_fld Try.underlying50 rfl rfl sz3 rfl) ?_
    refine wv rfl (r_ldB Try.underlying3 rfl rfl (hM.at' (.head _)) rfl) ?_
    refine wv rfl (r_move rfl) ?_
    refine wv rfl (r_leq rfl rfl) ?_
    refine wv rfl (r_move rfl) ?_
    refine wl_mid 5 (fun _ : Unit => [(24, (.bool ((decide (((l.getD k mk0).lo) ≤ p)) && (decide (p < ((l.getD k mk0).hi)))))), (1, (.int .i64 p)), (5, v), (7, (.pointer (some ⟨b6, 0, none⟩))), (9, v_l), (10, (.int .i64 (l.length : Int))), (11, (.int .i64 (k : Int)))]) (fun _ w' => St (b0 w) [oBox b6 #[(.int .i64 ((l.getD k mk0).id)), (.int .i64 ((l.getD k mk0).lo)), (.int .i64 ((l.getD k mk0).hi))] 50, oF v 3 1 fI (marksAt (l.take k) p)] [([v_l], dFs 3 fM l)] w') ?_ ?_
    · rcases Bool.eq_false_or_eq_true (decide (((l.getD k mk0).lo) ≤ p)) with hg9 | hg9
      · skip
        have hg9p := of_decide_eq_true hg9
        refine gv rfl hg9 rfl (r_fld Try.underlying50 rfl rfl sz3 rfl) ?_
        refine gv rfl hg9 rfl (r_ldB Try.underlying3 rfl rfl (hM.at' (.head _)) rfl) ?_
        refine gv rfl hg9 rfl (r_move rfl) ?_
        refine gv rfl hg9 rfl (r_gtr rfl rfl) ?_
        refine wv rfl (p_t rfl hg9 rfl) ?_
        exact mid_nil () ⟨bcongr (and_t hg9), rfl, rfl, rfl, rfl, rfl, rfl, trivial⟩ hM
      · skip
        have hg9p := of_decide_eq_false hg9
        refine gs rfl (isB_no hg9) rfl ?_
        refine gs rfl (isB_no hg9) rfl ?_
        refine gs rfl (isB_no hg9) rfl ?_
        refine gs rfl (isB_no hg9) rfl ?_
        refine wv rfl (p_f rfl hg9 rfl) ?_
        exact mid_nil () ⟨bcongr (and_f hg9), rfl, rfl, rfl, rfl, rfl, rfl, trivial⟩ hM
    rintro _ w10 hM
    refine wl_nil ?_
    refine sq_n ?_
    refine wc_cond rfl (fun hc11 => ?_) (fun hc11 => ?_)
    · skip
      obtain ⟨hc11a, hc11b⟩ := (Bool.and_eq_true_iff).1 hc11
      have hc11a := of_decide_eq_true hc11a
      have hc11b := of_decide_eq_true hc11b
      refine wc_region ?_
      refine wv rfl (r_move rfl) ?_
      refine wv rfl (r_fld Try.underlying50 rfl rfl sz3 rfl) ?_
      refine wv rfl (r_ldB Try.underlying3 rfl rfl (hM.at' (.head _)) rfl) ?_
      have hM := hM.swap
      refine w_pushF (f := fI) ((l.getD k mk0).id) rfl rfl Try.underlying29 sz3 rfl rfl rfl rfl rfl (fun _ => rfl) hM (by simp only [maxLen]; omega) (by omega) ?_; intro u14 v13 w12 hM
      refine wv rfl (r_assign rfl) ?_
      refine wl_nil ?_
      refine bk_n ?_
      refine sq_n ?_
      refine wc_region ?_
      refine wv rfl (r_add rfl rfl ⟨by omega, by omega⟩) ?_
      refine wv rfl (r_move rfl) ?_
      refine wl_nil ?_
      have hM := hM.swap
      have hM := hM.drop
      exact lp_end2 (k + 1) v13 (by omega) ⟨rfl, rfl, rfl, rfl, rfl, trivial⟩ ⟨(hM.reL (at_keep (by omega) (by assumption))), (by omega)⟩
    · skip
      refine wc_skip ?_
      refine bk_n ?_
      refine sq_n ?_
      refine wc_region ?_
      refine wv rfl (r_add rfl rfl ⟨by omega, by omega⟩) ?_
      refine wv rfl (r_move rfl) ?_
      refine wl_nil ?_
      have hM := hM.drop
      exact lp_end2 (k + 1) v (by omega) ⟨rfl, rfl, rfl, rfl, rfl, trivial⟩ ⟨(hM.reL (at_skip (by omega) (by assumption))), (by omega)⟩
  · skip
    have hc5 := of_decide_eq_false hc5
    refine wc_exit ?_
    refine sq_exit ?_
    refine lp2_exit ?_
    refine bk_here ?_
    refine sq_n ?_
    refine wc_seq ?_
    refine wc_region ?_
    refine wv rfl (r_move rfl) ?_
    refine wv rfl (r_assign rfl) ?_
    refine wl_nil ?_
    refine sq_n ?_
    refine wc_ret ?_
    refine fin_ret [v] ⟨rfl, trivial⟩ ?_
    have ho0 := hM.ownR
    rw [show marksAt (l.take k) p = marksAt l p from by rw [List.take_of_length_le (by omega)]] at ho0
    exact ⟨hM.rel, ho0⟩

theorem ct_impl_MarkedAll (w : World) (v_l : Value) (l : List Mk) (a_l : Arg w [v_l] (dFs 3 fM l)) (n : Int) : Ret Try.prog 37 [v_l, .int .i64 n] w (fun u w' => u = .int .i64 (markedAll l n) ∧ Rel w w') := by
  refine enter Try.func37 rfl Try.ntmps37 (by kernel_rfl) rfl ?_
  have hM := St.init w
  have hM := hM.addA a_l
  have hl_l := Fs.le a_l
  refine wc_seq ?_
  refine wc_region ?_
  refine wv rfl (r_assign rfl) ?_
  refine wl_nil ?_
  refine sq_n ?_
  refine wc_seq ?_
  refine wc_seq ?_
  refine wc_region ?_
  refine wv rfl (r_move rfl) ?_
  refine wv rfl (r_move rfl) ?_
  refine w_call rfl rfl (ct_impl_MarksOk _ _ l (hM.arg (.head _)) n) ?_
  rintro _ w1 ⟨rfl, hR2⟩
  have hM := hM.call hR2
  refine wv rfl (r_not rfl) ?_
  refine wl_nil ?_
  refine sq_n ?_
  refine wc_cond rfl (fun hc3 => ?_) (fun hc3 => ?_)
  · skip
    have hc3 := bnot_t hc3
    have hy := markedAll_no hc3
    refine wc_seq ?_
    refine wc_region ?_
    refine wv rfl (r_assign rfl) ?_
    refine wl_nil ?_
    refine sq_n ?_
    refine wc_ret ?_
    refine sq_ret ?_
    refine fin_ret [(.int .i64 0)] ⟨rfl, trivial⟩ ?_
    exact ⟨vint (by rw [hy]), hM.rel⟩
  · skip
    have hc3 := bnot_f hc3
    have hok := hc3
    have hb := marksOk_n hc3
    refine wc_skip ?_
    refine sq_n ?_
    refine wc_seq ?_
    refine wc_region ?_
    refine wv rfl (r_assign rfl) ?_
    refine wl_nil ?_
    refine sq_n ?_
    refine wc_seq ?_
    refine wc_seq ?_
    refine wc_region ?_
    refine wv rfl (r_assign rfl) ?_
    refine wl_nil ?_
    refine sq_n ?_
    refine wc_block ?_
    refine wc_loop1 (fun (k : Nat) => [(0, v_l), (1, (.int .i64 n)), (5, (.int .i64 (countTo l k : Int))), (6, (.int .i64 (k : Int)))]) (fun (k : Nat) w' => St (b0 w) [] [([v_l], dFs 3 fM l)] w' ∧ (k : Int) ≤ n) (fun (k : Nat) => n.toNat - k) 0 ⟨rfl, rfl, rfl, rfl, trivial⟩ ⟨hM, (by omega)⟩ ?_
    rintro k w4 ⟨hM, hf0_0⟩
    have hct := count_le l k
    refine wc_seq ?_
    refine wc_seq ?_
    refine wc_region ?_
    refine wv rfl (r_move rfl) ?_
    refine wv rfl (r_move rfl) ?_
    refine wv rfl (r_lss rfl rfl) ?_
    refine wl_nil ?_
    refine sq_n ?_
    refine wc_cond rfl (fun hc5 => ?_) (fun hc5 => ?_)
    · skip
      have hc5 := of_decide_eq_true hc5
      refine wc_skip ?_
      refine sq_n ?_
      refine wc_seq ?_
      refine wc_block ?_
      refine wc_seq ?_
      refine wc_region ?_
      refine wv rfl (r_move rfl) ?_
      refine wv rfl (r_move rfl) ?_
      refine w_call rfl rfl (ct_impl_MarksAt _ _ l (hM.arg (.head _)) (k : Int) (by omega)) ?_
      rintro v7 w6 ⟨hR8, hov7⟩
      have hM := hM.gain hR8 hov7
      have hM := hM.sealO (fun _ => rfl)
      refine wv rfl (r_lenF Try.underlying29 rfl (hM.arg (.head _))) ?_
      refine wv rfl (r_gtr rfl rfl) ?_
      refine wl_nil ?_
      refine sq_n ?_
      refine wc_cond rfl (fun hc9 => ?_) (fun hc9 => ?_)
      · skip
        have hc9 := of_decide_eq_true hc9
        refine wc_region ?_
        refine wv rfl (r_move rfl) ?_
        refine wv rfl (r_add rfl rfl ⟨by omega, by omega⟩) ?_
        refine wv rfl (r_assign rfl) ?_
        refine wl_nil ?_
        refine bk_n ?_
        refine sq_n ?_
        refine wc_region ?_
        refine wv rfl (r_move rfl) ?_
        refine wv rfl (r_add rfl rfl ⟨by omega, by omega⟩) ?_
        refine wv rfl (r_assign rfl) ?_
        refine wl_nil ?_
        have hM := hM.lessR
        exact lp_end1 (k + 1) (by omega) ⟨rfl, rfl, icongr (by rw [count_hit (by assumption)]; omega), rfl, trivial⟩ ⟨hM, (by omega)⟩
      · skip
        have hc9 := of_decide_eq_false hc9
        refine wc_skip ?_
        refine bk_n ?_
        refine sq_n ?_
        refine wc_region ?_
        refine wv rfl (r_move rfl) ?_
        refine wv rfl (r_add rfl rfl ⟨by omega, by omega⟩) ?_
        refine wv rfl (r_assign rfl) ?_
        refine wl_nil ?_
        have hM := hM.lessR
        exact lp_end1 (k + 1) (by omega) ⟨rfl, rfl, icongr (by rw [count_miss (by assumption)]), rfl, trivial⟩ ⟨hM, (by omega)⟩
    · skip
      have hc5 := of_decide_eq_false hc5
      refine wc_exit ?_
      refine sq_exit ?_
      refine lp1_exit ?_
      refine bk_here ?_
      refine sq_n ?_
      refine wc_seq ?_
      refine wc_region ?_
      refine wv rfl (r_move rfl) ?_
      refine wv rfl (r_assign rfl) ?_
      refine wl_nil ?_
      refine sq_n ?_
      refine wc_ret ?_
      refine fin_ret [(.int .i64 (countTo l k : Int))] ⟨rfl, trivial⟩ ?_
      exact ⟨vint (by rw [markedAll_yes hok (k := k) (by omega) (by omega)]), hM.rel⟩

theorem ct_spec_MarkedAll (w : World) (v_l : Value) (l : List Mk) (a_l : Arg w [v_l] (dFs 3 fM l)) (n : Int) : Ret Try.prog 36 [v_l, .int .i64 n] w (fun u w' => u = .int .i64 (markedAll l n) ∧ Rel w w') := by
  refine enter Try.func36 rfl Try.ntmps36 (by kernel_rfl) rfl ?_
  have hM := St.init w
  have hM := hM.addA a_l
  have hl_l := Fs.le a_l
  refine wc_seq ?_
  refine wc_region ?_
  refine wv rfl (r_assign rfl) ?_
  refine wl_nil ?_
  refine sq_n ?_
  refine wc_seq ?_
  refine wc_region ?_
  refine wv rfl (r_assign rfl) ?_
  refine wl_nil ?_
  refine sq_n ?_
  refine wc_seq ?_
  refine wc_seq ?_
  refine wc_region ?_
  refine wv rfl (r_move rfl) ?_
  refine wv rfl (r_move rfl) ?_
  refine w_call rfl rfl (ct_spec_MarksOk _ _ l (hM.arg (.head _)) n) ?_
  rintro _ w1 ⟨rfl, hR2⟩
  have hM := hM.call hR2
  refine wv rfl (r_not rfl) ?_
  refine wl_nil ?_
  refine sq_n ?_
  refine wc_cond rfl (fun hc3 => ?_) (fun hc3 => ?_)
  · skip
    have hc3 := bnot_t hc3
    have hy := markedAll_no hc3
    refine wc_seq ?_
    refine wc_region ?_
    refine wv rfl (r_assign rfl) ?_
    refine wl_nil ?_
    refine sq_n ?_
    refine wc_ret ?_
    refine sq_ret ?_
    refine fin_ret [(.int .i64 0)] ⟨rfl, trivial⟩ ?_
    exact ⟨vint (by rw [hy]), hM.rel⟩
  · skip
    have hc3 := bnot_f hc3
    have hok := hc3
    have hb := marksOk_n hc3
    refine wc_skip ?_
    refine sq_n ?_
    refine wc_seq ?_
    refine wc_seq ?_
    refine wc_region ?_
    refine wv rfl (r_assign rfl) ?_
    refine wl_nil ?_
    refine sq_n ?_
    refine wc_block ?_
    refine wc_loop1 (fun (k : Nat) => [(0, v_l), (1, (.int .i64 n)), (5, (.int .i64 (countTo l k : Int))), (6, (.int .i64 (k : Int)))]) (fun (k : Nat) w' => St (b0 w) [] [([v_l], dFs 3 fM l)] w' ∧ (k : Int) ≤ n) (fun (k : Nat) => n.toNat - k) 0 ⟨rfl, rfl, rfl, rfl, trivial⟩ ⟨hM, (by omega)⟩ ?_
    rintro k w4 ⟨hM, hf0_0⟩
    have hct := count_le l k
    refine wc_seq ?_
    refine wc_seq ?_
    refine wc_region ?_
    refine wv rfl (r_move rfl) ?_
    refine wv rfl (r_move rfl) ?_
    refine wv rfl (r_lss rfl rfl) ?_
    refine wl_nil ?_
    refine sq_n ?_
    refine wc_cond rfl (fun hc5 => ?_) (fun hc5 => ?_)
    · skip
      have hc5 := of_decide_eq_true hc5
      refine wc_skip ?_
      refine sq_n ?_
      refine wc_seq ?_
      refine wc_block ?_
      refine wc_seq ?_
      refine wc_region ?_
      refine wv rfl (r_move rfl) ?_
      refine wv rfl (r_move rfl) ?_
      refine w_call rfl rfl (ct_spec_MarksAt _ _ l (hM.arg (.head _)) (k : Int) (by omega)) ?_
      rintro v7 w6 ⟨hR8, hov7⟩
      have hM := hM.gain hR8 hov7
      have hM := hM.sealO (fun _ => rfl)
      refine wv rfl (r_lenF Try.underlying29 rfl (hM.arg (.head _))) ?_
      refine wv rfl (r_gtr rfl rfl) ?_
      refine wl_nil ?_
      refine sq_n ?_
      refine wc_cond rfl (fun hc9 => ?_) (fun hc9 => ?_)
      · skip
        have hc9 := of_decide_eq_true hc9
        refine wc_region ?_
        refine wv rfl (r_move rfl) ?_
        refine wv rfl (r_add rfl rfl ⟨by omega, by omega⟩) ?_
        refine wv rfl (r_assign rfl) ?_
        refine wl_nil ?_
        refine bk_n ?_
        refine sq_n ?_
        refine wc_region ?_
        refine wv rfl (r_move rfl) ?_
        refine wv rfl (r_add rfl rfl ⟨by omega, by omega⟩) ?_
        refine wv rfl (r_assign rfl) ?_
        refine wl_nil ?_
        have hM := hM.lessR
        exact lp_end1 (k + 1) (by omega) ⟨rfl, rfl, icongr (by rw [count_hit (by assumption)]; omega), rfl, trivial⟩ ⟨hM, (by omega)⟩
      · skip
        have hc9 := of_decide_eq_false hc9
        refine wc_skip ?_
        refine bk_n ?_
        refine sq_n ?_
        refine wc_region ?_
        refine wv rfl (r_move rfl) ?_
        refine wv rfl (r_add rfl rfl ⟨by omega, by omega⟩) ?_
        refine wv rfl (r_assign rfl) ?_
        refine wl_nil ?_
        have hM := hM.lessR
        exact lp_end1 (k + 1) (by omega) ⟨rfl, rfl, icongr (by rw [count_miss (by assumption)]), rfl, trivial⟩ ⟨hM, (by omega)⟩
    · skip
      have hc5 := of_decide_eq_false hc5
      refine wc_exit ?_
      refine sq_exit ?_
      refine lp1_exit ?_
      refine bk_here ?_
      refine sq_n ?_
      refine wc_seq ?_
      refine wc_region ?_
      refine wv rfl (r_move rfl) ?_
      refine wv rfl (r_assign rfl) ?_
      refine wl_nil ?_
      refine sq_n ?_
      refine wc_ret ?_
      refine fin_ret [(.int .i64 (countTo l k : Int))] ⟨rfl, trivial⟩ ?_
      exact ⟨vint (by rw [markedAll_yes hok (k := k) (by omega) (by omega)]), hM.rel⟩

theorem ct_laws_szMarkS (w : World) (v_a : Value) (a : List Mk) (a_a : Arg w [v_a] (dFs 3 fM a)) (left : Int) (hp0 : 0 ≤ left ∧ left ≤ 1048576) : Ret Try.prog 13 [v_a, .int .i64 left] w (fun u w' => u = .int .i64 ((if left - (a.length : Int) < 0 then -1 else left - (a.length : Int))) ∧ Rel w w') := by
  refine enter Try.func13 rfl Try.ntmps13 (by kernel_rfl) rfl ?_
  have hM := St.init w
  have hM := hM.addA a_a
  have hl_a := Fs.le a_a
  refine wc_seq ?_
  refine wc_region ?_
  refine wv rfl (r_assign rfl) ?_
  refine wl_nil ?_
  refine sq_n ?_
  refine wc_seq ?_
  refine wc_region ?_
  refine wv rfl (r_move rfl) ?_
  refine wv rfl (r_move rfl) ?_
  refine wv rfl (r_lenF Try.underlying22 rfl (hM.arg (.head _))) ?_
  refine wv rfl (r_sub rfl rfl ⟨by omega, by omega⟩) ?_
  refine wv rfl (r_assign rfl) ?_
  refine wl_nil ?_
  refine sq_n ?_
  refine wc_seq ?_
  refine wc_seq ?_
  refine wc_region ?_
  refine wv rfl (r_move rfl) ?_
  refine wv rfl (r_lss rfl rfl) ?_
  refine wl_nil ?_
  refine sq_n ?_
  refine wc_cond rfl (fun hc1 => ?_) (fun hc1 => ?_)
  · skip
    have hc1 := of_decide_eq_true hc1
    refine wc_seq ?_
    refine wc_region ?_
    refine wv rfl (r_assign rfl) ?_
    refine wl_nil ?_
    refine sq_n ?_
    refine wc_ret ?_
    refine sq_ret ?_
    refine fin_ret [(.int .i64 (-1))] ⟨rfl, trivial⟩ ?_
    exact ⟨vint (szM_no (by assumption)), hM.rel⟩
  · skip
    have hc1 := of_decide_eq_false hc1
    refine wc_skip ?_
    refine sq_n ?_
    refine wc_seq ?_
    refine wc_region ?_
    refine wv rfl (r_move rfl) ?_
    refine wv rfl (r_assign rfl) ?_
    refine wl_nil ?_
    refine sq_n ?_
    refine wc_ret ?_
    refine fin_ret [(.int .i64 (left - (a.length : Int)))] ⟨rfl, trivial⟩ ?_
    exact ⟨vint (szM_yes (by assumption)), hM.rel⟩

theorem ct_laws_toMark (w : World) (a : Mk) : Ret Try.prog 43 [.agg #[(.int .i64 a.id), (.int .i64 a.lo), (.int .i64 a.hi)]] w (fun u w' => u = .agg #[(.int .i64 a.id), (.int .i64 a.lo), (.int .i64 a.hi)] ∧ Rel w w') := by
  refine enter Try.func43 rfl Try.ntmps43 (by kernel_rfl) rfl ?_
  have hM := St.init w
  refine wc_seq ?_
  refine wc_region ?_
  refine w_box rfl rfl hM ?_; intro b1 w2 hM
  refine w_alloc rfl sz50 hM ?_; intro b3 w4 hM
  refine wl_nil ?_
  refine sq_n ?_
  refine wc_seq ?_
  refine wc_region ?_
  refine w_alloc rfl sz50 hM ?_; intro b5 w6 hM
  refine wl_nil ?_
  refine sq_n ?_
  refine wc_seq ?_
  refine wc_region ?_
  refine wv rfl (r_fld Try.underlying53 rfl rfl sz3 rfl) ?_
  refine wv rfl (r_ldB Try.underlying3 rfl rfl (hM.at' (.tail _ (.tail _ (.head _)))) rfl) ?_
  refine wv rfl (r_fld Try.underlying50 rfl rfl sz3 rfl) ?_
  refine w_st1 sz3 rfl rfl rfl rfl hM ?_; intro w7 hM
  refine wl_nil ?_
  refine sq_n ?_
  refine wc_seq ?_
  refine wc_region ?_
  refine wv rfl (r_fld Try.underlying53 rfl rfl sz3 rfl) ?_
  refine wv rfl (r_ldB Try.underlying3 rfl rfl (hM.at' (.tail _ (.tail _ (.head _)))) rfl) ?_
  refine wv rfl (r_fld Try.underlying50 rfl rfl sz3 rfl) ?_
  refine w_st1 sz3 rfl rfl rfl rfl hM ?_; intro w8 hM
  refine wl_nil ?_
  refine sq_n ?_
  refine wc_seq ?_
  refine wc_region ?_
  refine wv rfl (r_fld Try.underlying53 rfl rfl sz3 rfl) ?_
  refine wv rfl (r_ldB Try.underlying3 rfl rfl (hM.at' (.tail _ (.tail _ (.head _)))) rfl) ?_
  refine wv rfl (r_fld Try.underlying50 rfl rfl sz3 rfl) ?_
  refine w_st1 sz3 rfl rfl rfl rfl hM ?_; intro w9 hM
  refine wl_nil ?_
  refine sq_n ?_
  refine wc_seq ?_
  refine wc_region ?_
  refine wv rfl (r_ldBS Try.underlying50 sz50 rfl (cs := [(.int .i64 a.id), (.int .i64 a.lo), (.int .i64 a.hi)]) rfl (hM.at' (.head _))) ?_
  have hM := hM.swap
  refine w_stB sz50 rfl rfl rfl hM rfl rfl ?_; intro w10 hM
  refine wl_nil ?_
  refine sq_n ?_
  refine wc_ret ?_
  refine fin_ret [(.agg #[(.int .i64 a.id), (.int .i64 a.lo), (.int .i64 a.hi)])] ⟨rv_box Try.underlying50 sz50 (cs := [(.int .i64 a.id), (.int .i64 a.lo), (.int .i64 a.hi)]) rfl rfl (hM.at' (.head _)), trivial⟩ ?_
  exact ⟨rfl, hM.rel⟩

theorem ct_laws_toMarkS (w : World) (v_a : Value) (a : List Mk) (a_a : Arg w [v_a] (dFs 3 fM a)) (hp0 : (a.length : Int) ≤ 1048576) : Ret Try.prog 15 [v_a] w (fun u w' => Rel w w' ∧ w'.ownsRow w.heap.size 50 3 u a.length (a.flatMap fM)) := by
  refine enter Try.func15 rfl Try.ntmps15 (by kernel_rfl) rfl ?_
  have hM := St.init w
  have hM := hM.addA a_a
  have hl_a := Fs.le a_a
  refine wc_seq ?_
  refine wc_region ?_
  refine wv rfl (r_assign rfl) ?_
  refine wl_nil ?_
  refine sq_n ?_
  refine wc_seq ?_
  refine wc_region ?_
  refine wv rfl (r_move rfl) ?_
  refine wv rfl (r_lenF Try.underlying22 rfl (hM.arg (.head _))) ?_
  refine w_makeF (f := fM) (k := a.length) mk0 rfl Try.underlying25 sz50 rfl rfl (by omega) (by omega) hM ?_; intro v2 w1 hM
  refine wv rfl (r_assign rfl) ?_
  refine wl_nil ?_
  refine sq_n ?_
  refine wc_seq ?_
  refine wc_seq ?_
  refine wc_region ?_
  refine wv rfl (r_assign rfl) ?_
  refine wl_nil ?_
  refine sq_n ?_
  refine wc_block ?_
  refine wc_loop1 (fun (k : Nat) => [(0, v_a), (3, v2), (4, (.int .i64 (k : Int)))]) (fun (k : Nat) w' => St (b0 w) [oF v2 50 3 fM (a.take k ++ List.replicate (a.length - k) mk0)] [([v_a], dFs 3 fM a)] w' ∧ k ≤ a.length) (fun (k : Nat) => a.length - k) 0 ⟨rfl, rfl, rfl, trivial⟩ ⟨(by simpa using hM), (by omega)⟩ ?_
  rintro k w4 ⟨hM, hf0_0⟩
  have hlen : (a.take k ++ List.replicate (a.length - k) mk0).length = a.length := by simp; omega
  refine wc_seq ?_
  refine wc_seq ?_
  refine wc_region ?_
  refine wv rfl (r_move rfl) ?_
  refine wv rfl (r_move rfl) ?_
  refine wv rfl (r_lenF Try.underlying22 rfl (hM.arg (.head _))) ?_
  refine wv rfl (r_lss rfl rfl) ?_
  refine wl_nil ?_
  refine sq_n ?_
  refine wc_cond rfl (fun hc5 => ?_) (fun hc5 => ?_)
  · skip
    have hc5 := of_decide_eq_true hc5
    refine wc_skip ?_
    refine sq_n ?_
    refine wc_seq ?_
    refine wc_block ?_
    refine wc_region ?_
    refine wv rfl (r_move rfl) ?_
    refine wv rfl (r_move rfl) ?_
    refine wv rfl (r_move rfl) ?_
    refine wv rfl (r_move rfl) ?_
    refine wv rfl (r_ixF Try.underlying22 sz53 rfl rfl (hM.arg (.head _)) ⟨by omega, by omega⟩) ?_
    refine wv rfl (r_ldFS (i := k) mk0 Try.underlying53 sz53 (fun _ => rfl) rfl (hM.arg (.head _)) (by omega)) ?_
    refine w_call rfl rfl (ct_laws_toMark _ (a.getD k mk0)) ?_
    rintro _ w6 ⟨rfl, hR7⟩
    have hM := hM.call hR7
    refine wv rfl (r_ixO Try.underlying25 sz50 rfl rfl (hM.at' (.head _)) ⟨by omega, by omega⟩) ?_
    refine w_stFS (f := fM) (L := (a.take k ++ List.replicate (a.length - k) mk0)) (i := k) (a.getD k mk0) sz50 (fun _ => rfl) rfl rfl (by omega) rfl rfl hM ?_; intro w8 hM
    refine wl_nil ?_
    refine bk_n ?_
    refine sq_n ?_
    refine wc_region ?_
    refine wv rfl (r_move rfl) ?_
    refine wv rfl (r_add rfl rfl ⟨by omega, by omega⟩) ?_
    refine wv rfl (r_assign rfl) ?_
    refine wl_nil ?_
    exact lp_end1 (k + 1) (by omega) ⟨rfl, rfl, rfl, trivial⟩ ⟨(hM.reL (copy_step a k mk0 (by omega))), (by omega)⟩
  · skip
    have hc5 := of_decide_eq_false hc5
    refine wc_exit ?_
    refine sq_exit ?_
    refine lp1_exit ?_
    refine bk_here ?_
    refine sq_n ?_
    refine wc_seq ?_
    refine wc_region ?_
    refine wv rfl (r_move rfl) ?_
    refine wv rfl (r_assign rfl) ?_
    refine wl_nil ?_
    refine sq_n ?_
    refine wc_ret ?_
    refine fin_ret [v2] ⟨rfl, trivial⟩ ?_
    have ho0 := hM.ownR
    rw [show a.take k ++ List.replicate (a.length - k) mk0 = a from copy_end a k mk0 (by omega)] at ho0
    exact ⟨hM.rel, ho0⟩

theorem ct_laws_eqMark (w : World) (a : Mk) (b : Mk) : Ret Try.prog 45 [.agg #[(.int .i64 a.id), (.int .i64 a.lo), (.int .i64 a.hi)], .agg #[(.int .i64 b.id), (.int .i64 b.lo), (.int .i64 b.hi)]] w (fun u w' => u = .bool (decide (a = b)) ∧ Rel w w') := by
  refine enter Try.func45 rfl Try.ntmps45 (by kernel_rfl) rfl ?_
  have hM := St.init w
  refine wc_seq ?_
  refine wc_region ?_
  refine w_box rfl rfl hM ?_; intro b1 w2 hM
  refine w_box rfl rfl hM ?_; intro b3 w4 hM
  refine wv rfl (r_assign rfl) ?_
  refine wl_nil ?_
  refine sq_n ?_
  refine wc_seq ?_
  refine wc_seq ?_
  refine wc_region ?_
  refine wv rfl (r_fld Try.underlying50 rfl rfl sz3 rfl) ?_
  refine wv rfl (r_ldB Try.underlying3 rfl rfl (hM.at' (.tail _ (.head _))) rfl) ?_
  refine wv rfl (r_fld Try.underlying50 rfl rfl sz3 rfl) ?_
  refine wv rfl (r_ldB Try.underlying3 rfl rfl (hM.at' (.head _)) rfl) ?_
  refine wv rfl (r_neq rfl rfl) ?_
  refine wl_nil ?_
  refine sq_n ?_
  refine wc_cond rfl (fun hc5 => ?_) (fun hc5 => ?_)
  · skip
    have hc5 := bnot_t hc5
    have hc5 := of_decide_eq_false hc5
    refine wc_seq ?_
    refine wc_region ?_
    refine wv rfl (r_assign rfl) ?_
    refine wl_nil ?_
    refine sq_n ?_
    refine wc_ret ?_
    refine sq_ret ?_
    refine fin_ret [(.bool false)] ⟨rfl, trivial⟩ ?_
    exact ⟨vbool (eqM_1 (by assumption)), hM.rel⟩
  · skip
    have hc5 := bnot_f hc5
    have hc5 := of_decide_eq_true hc5
    refine wc_skip ?_
    refine sq_n ?_
    refine wc_seq ?_
    refine wc_seq ?_
    refine wc_region ?_
    refine wv rfl (r_fld Try.underlying50 rfl rfl sz3 rfl) ?_
    refine wv rfl (r_ldB Try.underlying3 rfl rfl (hM.at' (.tail _ (.head _))) rfl) ?_
    refine wv rfl (r_fld Try.underlying50 rfl rfl sz3 rfl) ?_
    refine wv rfl (r_ldB Try.underlying3 rfl rfl (hM.at' (.head _)) rfl) ?_
    refine wv rfl (r_neq rfl rfl) ?_
    refine wl_nil ?_
    refine sq_n ?_
    refine wc_cond rfl (fun hc6 => ?_) (fun hc6 => ?_)
    · skip
      have hc6 := bnot_t hc6
      have hc6 := of_decide_eq_false hc6
      refine wc_seq ?_
      refine wc_region ?_
      refine wv rfl (r_assign rfl) ?_
      refine wl_nil ?_
      refine sq_n ?_
      refine wc_ret ?_
      refine sq_ret ?_
      refine fin_ret [(.bool false)] ⟨rfl, trivial⟩ ?_
      exact ⟨vbool (eqM_2 (by assumption)), hM.rel⟩
    · skip
      have hc6 := bnot_f hc6
      have hc6 := of_decide_eq_true hc6
      refine wc_skip ?_
      refine sq_n ?_
      refine wc_seq ?_
      refine wc_seq ?_
      refine wc_region ?_
      refine wv rfl (r_fld Try.underlying50 rfl rfl sz3 rfl) ?_
      refine wv rfl (r_ldB Try.underlying3 rfl rfl (hM.at' (.tail _ (.head _))) rfl) ?_
      refine wv rfl (r_fld Try.underlying50 rfl rfl sz3 rfl) ?_
      refine wv rfl (r_ldB Try.underlying3 rfl rfl (hM.at' (.head _)) rfl) ?_
      refine wv rfl (r_neq rfl rfl) ?_
      refine wl_nil ?_
      refine sq_n ?_
      refine wc_cond rfl (fun hc7 => ?_) (fun hc7 => ?_)
      · skip
        have hc7 := bnot_t hc7
        have hc7 := of_decide_eq_false hc7
        refine wc_seq ?_
        refine wc_region ?_
        refine wv rfl (r_assign rfl) ?_
        refine wl_nil ?_
        refine sq_n ?_
        refine wc_ret ?_
        refine sq_ret ?_
        refine fin_ret [(.bool false)] ⟨rfl, trivial⟩ ?_
        exact ⟨vbool (eqM_3 (by assumption)), hM.rel⟩
      · skip
        have hc7 := bnot_f hc7
        have hc7 := of_decide_eq_true hc7
        refine wc_skip ?_
        refine sq_n ?_
        refine wc_seq ?_
        refine wc_region ?_
        refine wv rfl (r_assign rfl) ?_
        refine wl_nil ?_
        refine sq_n ?_
        refine wc_ret ?_
        refine fin_ret [(.bool true)] ⟨rfl, trivial⟩ ?_
        exact ⟨vbool (eqM_y (by assumption) (by assumption) (by assumption)), hM.rel⟩

theorem ct_laws_eqMarkS (w : World) (v_a : Value) (a : List Mk) (a_a : Arg w [v_a] (dFs 3 fM a)) (v_b : Value) (b : List Mk) (a_b : Arg w [v_b] (dFs 3 fM b)) : Ret Try.prog 17 [v_a, v_b] w (fun u w' => u = .bool (decide (a = b)) ∧ Rel w w') := by
  refine enter Try.func17 rfl Try.ntmps17 (by kernel_rfl) rfl ?_
  have hM := St.init w
  have hM := hM.addA a_a
  have hl_a := Fs.le a_a
  have hM := hM.addA a_b
  have hl_b := Fs.le a_b
  refine wc_seq ?_
  refine wc_region ?_
  refine wv rfl (r_assign rfl) ?_
  refine wl_nil ?_
  refine sq_n ?_
  refine wc_seq ?_
  refine wc_seq ?_
  refine wc_region ?_
  refine wv rfl (r_move rfl) ?_
  refine wv rfl (r_lenF Try.underlying25 rfl (hM.arg (.tail _ (.head _)))) ?_
  refine wv rfl (r_move rfl) ?_
  refine wv rfl (r_lenF Try.underlying25 rfl (hM.arg (.head _))) ?_
  refine wv rfl (r_neq rfl rfl) ?_
  refine wl_nil ?_
  refine sq_n ?_
  refine wc_cond rfl (fun hc1 => ?_) (fun hc1 => ?_)
  · skip
    have hc1 := bnot_t hc1
    have hc1 := of_decide_eq_false hc1
    refine wc_seq ?_
    refine wc_region ?_
    refine wv rfl (r_assign rfl) ?_
    refine wl_nil ?_
    refine sq_n ?_
    refine wc_ret ?_
    refine sq_ret ?_
    refine fin_ret [(.bool false)] ⟨rfl, trivial⟩ ?_
    exact ⟨vbool ((decide_eq_false (ne_of_len (by assumption))).symm), hM.rel⟩
  · skip
    have hc1 := bnot_f hc1
    have hc1 := of_decide_eq_true hc1
    refine wc_skip ?_
    refine sq_n ?_
    refine wc_seq ?_
    refine wc_seq ?_
    refine wc_region ?_
    refine wv rfl (r_assign rfl) ?_
    refine wl_nil ?_
    refine sq_n ?_
    refine wc_block ?_
    refine wc_loop1 (fun (k : Nat) => [(0, v_a), (1, v_b), (5, (.int .i64 (k : Int)))]) (fun (k : Nat) w' => St (b0 w) [] [([v_b], dFs 3 fM b), ([v_a], dFs 3 fM a)] w' ∧ k ≤ a.length ∧ a.take k = b.take k) (fun (k : Nat) => a.length - k) 0 ⟨rfl, rfl, rfl, trivial⟩ ⟨hM, (by omega), (rfl)⟩ ?_
    rintro k w2 ⟨hM, hf0_0, hf0_1⟩
    refine wc_seq ?_
    refine wc_seq ?_
    refine wc_region ?_
    refine wv rfl (r_move rfl) ?_
    refine wv rfl (r_move rfl) ?_
    refine wv rfl (r_lenF Try.underlying25 rfl (hM.arg (.tail _ (.head _)))) ?_
    refine wv rfl (r_lss rfl rfl) ?_
    refine wl_nil ?_
    refine sq_n ?_
    refine wc_cond rfl (fun hc3 => ?_) (fun hc3 => ?_)
    · skip
      have hc3 := of_decide_eq_true hc3
      refine wc_skip ?_
      refine sq_n ?_
      refine wc_seq ?_
      refine wc_block ?_
      refine wc_seq ?_
      refine wc_draw [(0, false), (1, false), (2, false), (3, false), (4, false), (5, false), (6, false), (7, false), (8, false), (9, false)] Try_mixed (by kernel_rfl) rfl (by kernel_rfl) rfl ?_
      refine ov rfl (fun w' h' => r_move rfl) ?_
      refine ov rfl (fun w' h' => r_move rfl) ?_
      refine ov rfl (fun w' h' => r_ixF Try.underlying25 sz50 rfl rfl ((hM.call h').arg (.tail _ (.head _))) ⟨by omega, by omega⟩) ?_
      refine ov rfl (fun w' h' => r_ldFS (i := k) mk0 Try.underlying50 sz50 (fun _ => rfl) rfl ((hM.call h').arg (.tail _ (.head _))) (by omega)) ?_
      refine ov rfl (fun w' h' => r_move rfl) ?_
      refine ov rfl (fun w' h' => r_move rfl) ?_
      refine ov rfl (fun w' h' => r_ixF Try.underlying25 sz50 rfl rfl ((hM.call h').arg (.head _)) ⟨by omega, by omega⟩) ?_
      refine ov rfl (fun w' h' => r_ldFS (i := k) mk0 Try.underlying50 sz50 (fun _ => rfl) rfl ((hM.call h').arg (.head _)) (by omega)) ?_
      refine oc rfl rfl (fun w' h' => ct_laws_eqMark _ (a.getD k mk0) (b.getD k mk0)) ?_
      refine ov rfl (fun w' h' => r_not rfl) ?_
      refine o_nil fun w4 hw5 => ?_
      have hM := hM.call hw5
      refine sq_n ?_
      refine wc_cond rfl (fun hc6 => ?_) (fun hc6 => ?_)
      · skip
        have hc6 := bnot_t hc6
        have hc6 := of_decide_eq_false hc6
        refine wc_seq ?_
        refine wc_region ?_
        refine wv rfl (r_assign rfl) ?_
        refine wl_nil ?_
        refine sq_n ?_
        refine wc_ret ?_
        refine bk_ret ?_
        refine sq_ret ?_
        refine lp1_ret ?_
        refine bk_ret ?_
        refine sq_ret ?_
        refine fin_ret [(.bool false)] ⟨rfl, trivial⟩ ?_
        exact ⟨vbool ((decide_eq_false (ne_of_get (by assumption))).symm), hM.rel⟩
      · skip
        have hc6 := bnot_f hc6
        have hc6 := of_decide_eq_true hc6
        refine wc_skip ?_
        refine bk_n ?_
        refine sq_n ?_
        refine wc_region ?_
        refine wv rfl (r_move rfl) ?_
        refine wv rfl (r_add rfl rfl ⟨by omega, by omega⟩) ?_
        refine wv rfl (r_assign rfl) ?_
        refine wl_nil ?_
        exact lp_end1 (k + 1) (by omega) ⟨rfl, rfl, rfl, trivial⟩ ⟨hM, (by omega), (take_eq_step (d0 := mk0) (by omega) (by omega) (by assumption) (by assumption))⟩
    · skip
      have hc3 := of_decide_eq_false hc3
      refine wc_exit ?_
      refine sq_exit ?_
      refine lp1_exit ?_
      refine bk_here ?_
      refine sq_n ?_
      refine wc_seq ?_
      refine wc_region ?_
      refine wv rfl (r_assign rfl) ?_
      refine wl_nil ?_
      refine sq_n ?_
      refine wc_ret ?_
      refine fin_ret [(.bool true)] ⟨rfl, trivial⟩ ?_
      exact ⟨vbool ((decide_eq_true (take_eq_end (k := k) (by omega) (by omega) (by assumption))).symm), hM.rel⟩

theorem ct_laws_markMarkS (w : World) (v_a : Value) (a : List Mk) (o_a : (oF v_a 50 3 fM a).ok w) (k : Int) (hp0 : 0 ≤ k ∧ k ≤ 1099511627776 ∧ (a.length : Int) ≤ 1099511627776) : Ret Try.prog 30 [v_a, .int .i64 k] w (fun u w' => u = .int .i64 (k + 3 * (a.length : Int)) ∧ RelX v_a.ownBlock.toList w w' ∧ (oF v_a 50 3 fM (markedM a k a.length)).ok w') := by
  refine enter Try.func30 rfl Try.ntmps30 (by kernel_rfl) rfl ?_
  have hM := St.initX o_a
  have hl_a := Of.le o_a
  refine wc_seq ?_
  refine wc_region ?_
  refine wv rfl (r_assign rfl) ?_
  refine wl_nil ?_
  refine sq_n ?_
  refine wc_seq ?_
  refine wc_seq ?_
  refine wc_region ?_
  refine wv rfl (r_assign rfl) ?_
  refine wl_nil ?_
  refine sq_n ?_
  refine wc_block ?_
  refine wc_loop1 (fun (j : Nat) => [(0, v_a), (1, (.int .i64 (k + 3 * (j : Int)))), (5, (.int .i64 (j : Int)))]) (fun (j : Nat) w' => St ⟨w, v_a.ownBlock.toList⟩ [oF v_a 50 3 fM (markedM a k j)] [] w' ∧ j ≤ a.length) (fun (j : Nat) => a.length - j) 0 ⟨rfl, icongr (by simp), rfl, trivial⟩ ⟨hM, (by omega)⟩ ?_
  rintro j w2 ⟨hM, hf0_0⟩
  have hlen := markedM_len a k j (by omega)
  refine wc_seq ?_
  refine wc_seq ?_
  refine wc_region ?_
  refine wv rfl (r_move rfl) ?_
  refine wv rfl (r_move rfl) ?_
  refine wv rfl (r_lenO Try.underlying25 rfl (hM.at' (.head _))) ?_
  refine wv rfl (r_lss rfl rfl) ?_
  refine wl_nil ?_
  refine sq_n ?_
  refine wc_cond rfl (fun hc3 => ?_) (fun hc3 => ?_)
  · skip
    have hc3 := of_decide_eq_true hc3
    refine wc_skip ?_
    refine sq_n ?_
    refine wc_seq ?_
    refine wc_block ?_
    refine wc_seq ?_
    refine wc_region ?_
    refine wv rfl (r_move rfl) ?_
    refine wv rfl (r_move rfl) ?_
    refine wv rfl (r_move rfl) ?_
    refine wv rfl (r_ixO Try.underlying25 sz50 rfl rfl (hM.at' (.head _)) ⟨by first | omega | (simp only [List.length_set]; omega), by first | omega | (simp only [List.length_set]; omega)⟩) ?_
    refine wv rfl (r_flde Try.underlying50 rfl rfl sz3 rfl (Osl.ptr (hM.at' (.head _)) (by first | omega | (simp only [List.length_set]; omega)))) ?_
    refine w_stF (f := fM) (L := (markedM a k j)) (i := j) (j := 0) mk0 (⟨k + 3 * (j : Int), ((markedM a k j).getD j mk0).lo, ((markedM a k j).getD j mk0).hi⟩) sz3 (fun _ => rfl) rfl rfl (by first | omega | (simp only [List.length_set]; omega)) rfl rfl rfl hM ?_; intro w4 hM
    refine wl_nil ?_
    refine sq_n ?_
    refine wc_seq ?_
    refine wc_region ?_
    refine wv rfl (r_move rfl) ?_
    refine wv rfl (r_add rfl rfl ⟨by first | omega | (simp only [List.length_set]; omega), by first | omega | (simp only [List.length_set]; omega)⟩) ?_
    refine wv rfl (r_assign rfl) ?_
    refine wl_nil ?_
    refine sq_n ?_
    refine wc_seq ?_
    refine wc_region ?_
    refine wv rfl (r_move rfl) ?_
    refine wv rfl (r_move rfl) ?_
    refine wv rfl (r_move rfl) ?_
    refine wv rfl (r_ixO Try.underlying25 sz50 rfl rfl (hM.at' (.head _)) ⟨by first | omega | (simp only [List.length_set]; omega), by first | omega | (simp only [List.length_set]; omega)⟩) ?_
    refine wv rfl (r_flde Try.underlying50 rfl rfl sz3 rfl (Osl.ptr (hM.at' (.head _)) (by first | omega | (simp only [List.length_set]; omega)))) ?_
    refine w_stF (f := fM) (L := ((markedM a k j).set j (⟨k + 3 * (j : Int), ((markedM a k j).getD j mk0).lo, ((markedM a k j).getD j mk0).hi⟩))) (i := j) (j := 1) mk0 (⟨(((markedM a k j).set j (⟨k + 3 * (j : Int), ((markedM a k j).getD j mk0).lo, ((markedM a k j).getD j mk0).hi⟩)).getD j mk0).id, (k + 3 * (j : Int)) + 1, (((markedM a k j).set j (⟨k + 3 * (j : Int), ((markedM a k j).getD j mk0).lo, ((markedM a k j).getD j mk0).hi⟩)).getD j mk0).hi⟩) sz3 (fun _ => rfl) rfl rfl (by first | omega | (simp only [List.length_set]; omega)) rfl rfl rfl hM ?_; intro w5 hM
    refine wl_nil ?_
    refine sq_n ?_
    refine wc_seq ?_
    refine wc_region ?_
    refine wv rfl (r_move rfl) ?_
    refine wv rfl (r_add rfl rfl ⟨by first | omega | (simp only [List.length_set]; omega), by first | omega | (simp only [List.length_set]; omega)⟩) ?_
    refine wv rfl (r_assign rfl) ?_
    refine wl_nil ?_
    refine sq_n ?_
    refine wc_seq ?_
    refine wc_region ?_
    refine wv rfl (r_move rfl) ?_
    refine wv rfl (r_move rfl) ?_
    refine wv rfl (r_move rfl) ?_
    refine wv rfl (r_ixO Try.underlying25 sz50 rfl rfl (hM.at' (.head _)) ⟨by first | omega | (simp only [List.length_set]; omega), by first | omega | (simp only [List.length_set]; omega)⟩) ?_
    refine wv rfl (r_flde Try.underlying50 rfl rfl sz3 rfl (Osl.ptr (hM.at' (.head _)) (by first | omega | (simp only [List.length_set]; omega)))) ?_
    refine w_stF (f := fM) (L := (((markedM a k j).set j (⟨k + 3 * (j : Int), ((markedM a k j).getD j mk0).lo, ((markedM a k j).getD j mk0).hi⟩)).set j (⟨(((markedM a k j).set j (⟨k + 3 * (j : Int), ((markedM a k j).getD j mk0).lo, ((markedM a k j).getD j mk0).hi⟩)).getD j mk0).id, (k + 3 * (j : Int)) + 1, (((markedM a k j).set j (⟨k + 3 * (j : Int), ((markedM a k j).getD j mk0).lo, ((markedM a k j).getD j mk0).hi⟩)).getD j mk0).hi⟩))) (i := j) (j := 2) mk0 (⟨((((markedM a k j).set j (⟨k + 3 * (j : Int), ((markedM a k j).getD j mk0).lo, ((markedM a k j).getD j mk0).hi⟩)).set j (⟨(((markedM a k j).set j (⟨k + 3 * (j : Int), ((markedM a k j).getD j mk0).lo, ((markedM a k j).getD j mk0).hi⟩)).getD j mk0).id, (k + 3 * (j : Int)) + 1, (((markedM a k j).set j (⟨k + 3 * (j : Int), ((markedM a k j).getD j mk0).lo, ((markedM a k j).getD j mk0).hi⟩)).getD j mk0).hi⟩)).getD j mk0).id, ((((markedM a k j).set j (⟨k + 3 * (j : Int), ((markedM a k j).getD j mk0).lo, ((markedM a k j).getD j mk0).hi⟩)).set j (⟨(((markedM a k j).set j (⟨k + 3 * (j : Int), ((markedM a k j).getD j mk0).lo, ((markedM a k j).getD j mk0).hi⟩)).getD j mk0).id, (k + 3 * (j : Int)) + 1, (((markedM a k j).set j (⟨k + 3 * (j : Int), ((markedM a k j).getD j mk0).lo, ((markedM a k j).getD j mk0).hi⟩)).getD j mk0).hi⟩)).getD j mk0).lo, ((k + 3 * (j : Int)) + 1) + 1⟩) sz3 (fun _ => rfl) rfl rfl (by first | omega | (simp only [List.length_set]; omega)) rfl rfl rfl hM ?_; intro w6 hM
    refine wl_nil ?_
    refine sq_n ?_
    refine wc_region ?_
    refine wv rfl (r_move rfl) ?_
    refine wv rfl (r_add rfl rfl ⟨by first | omega | (simp only [List.length_set]; omega), by first | omega | (simp only [List.length_set]; omega)⟩) ?_
    refine wv rfl (r_assign rfl) ?_
    refine wl_nil ?_
    refine bk_n ?_
    refine sq_n ?_
    refine wc_region ?_
    refine wv rfl (r_move rfl) ?_
    refine wv rfl (r_add rfl rfl ⟨by first | omega | (simp only [List.length_set]; omega), by first | omega | (simp only [List.length_set]; omega)⟩) ?_
    refine wv rfl (r_assign rfl) ?_
    refine wl_nil ?_
    exact lp_end1 (j + 1) (by omega) ⟨rfl, icongr (by omega), rfl, trivial⟩ ⟨(hM.reL (markedM_step a k j (by omega) _ _ _ (by rw [getD_set_self _ _ _ _ (by simp only [List.length_set]; omega), getD_set_self _ _ _ _ (by omega)]))), (by omega)⟩
  · skip
    have hc3 := of_decide_eq_false hc3
    refine wc_exit ?_
    refine sq_exit ?_
    refine lp1_exit ?_
    refine bk_here ?_
    refine sq_n ?_
    refine wc_seq ?_
    refine wc_region ?_
    refine wv rfl (r_move rfl) ?_
    refine wv rfl (r_assign rfl) ?_
    refine wl_nil ?_
    refine sq_n ?_
    refine wc_ret ?_
    refine fin_ret [(.int .i64 (k + 3 * (j : Int)))] ⟨rfl, trivial⟩ ?_
    have ho := hM.top
    rw [show markedM a k j = markedM a k a.length from by rw [show j = a.length by omega]] at ho
    exact ⟨vint (by omega), hM.relx, ho⟩

theorem ct_laws_heldMarkS (w : World) (v_a : Value) (a : List Mk) (a_a : Arg w [v_a] (dFs 3 fM a)) (k : Int) (hp0 : 0 ≤ k ∧ k ≤ 1099511627776 ∧ (a.length : Int) ≤ 1099511627776) : Ret Try.prog 31 [v_a, .int .i64 k] w (fun u w' => u = .int .i64 (heldM a k) ∧ Rel w w') := by
  refine enter Try.func31 rfl Try.ntmps31 (by kernel_rfl) rfl ?_
  have hM := St.init w
  have hM := hM.addA a_a
  have hl_a := Fs.le a_a
  refine wc_seq ?_
  refine wc_region ?_
  refine wv rfl (r_assign rfl) ?_
  refine wl_nil ?_
  refine sq_n ?_
  refine wc_seq ?_
  refine wc_seq ?_
  refine wc_region ?_
  refine wv rfl (r_assign rfl) ?_
  refine wl_nil ?_
  refine sq_n ?_
  refine wc_block ?_
  refine wc_loop1 (fun (j : Nat) => [(0, v_a), (1, (.int .i64 (k + 3 * (j : Int)))), (5, (.int .i64 (j : Int)))]) (fun (j : Nat) w' => St (b0 w) [] [([v_a], dFs 3 fM a)] w' ∧ j ≤ a.length ∧ heldM (a.drop j) (k + 3 * (j : Int)) = heldM a k) (fun (j : Nat) => a.length - j) 0 ⟨rfl, icongr (by simp), rfl, trivial⟩ ⟨hM, (by omega), (by simp)⟩ ?_
  rintro j w1 ⟨hM, hf0_0, hf0_1⟩
  refine wc_seq ?_
  refine wc_seq ?_
  refine wc_region ?_
  refine wv rfl (r_move rfl) ?_
  refine wv rfl (r_move rfl) ?_
  refine wv rfl (r_lenF Try.underlying25 rfl (hM.arg (.head _))) ?_
  refine wv rfl (r_lss rfl rfl) ?_
  refine wl_nil ?_
  refine sq_n ?_
  refine wc_cond rfl (fun hc2 => ?_) (fun hc2 => ?_)
  · skip
    have hc2 := of_decide_eq_true hc2
    refine wc_skip ?_
    refine sq_n ?_
    refine wc_seq ?_
    refine wc_block ?_
    refine wc_seq ?_
    refine wc_seq ?_
    refine wc_region ?_
    refine wv rfl (r_move rfl) ?_
    refine wv rfl (r_move rfl) ?_
    refine wv rfl (r_ixF Try.underlying25 sz50 rfl rfl (hM.arg (.head _)) ⟨by omega, by omega⟩) ?_
    refine wv rfl (r_fldF (i := j) Try.underlying50 rfl rfl sz3 rfl (hM.arg (.head _)) (by omega)) ?_
    refine wv rfl (r_ldF (i := j) (j := 0) mk0 Try.underlying3 rfl rfl (hM.arg (.head _)) (by omega) rfl) ?_
    refine wv rfl (r_move rfl) ?_
    refine wv rfl (r_neq rfl rfl) ?_
    refine wl_nil ?_
    refine sq_n ?_
    refine wc_cond rfl (fun hc3 => ?_) (fun hc3 => ?_)
    · skip
      have hc3 := bnot_t hc3
      have hc3 := of_decide_eq_false hc3
      refine wc_seq ?_
      refine wc_region ?_
      refine wv rfl (r_assign rfl) ?_
      refine wl_nil ?_
      refine sq_n ?_
      refine wc_ret ?_
      refine sq_ret ?_
      refine bk_ret ?_
      refine sq_ret ?_
      refine lp1_ret ?_
      refine bk_ret ?_
      refine sq_ret ?_
      refine fin_ret [(.int .i64 (-1))] ⟨rfl, trivial⟩ ?_
      exact ⟨vint (heldM_stop1 (j := j) (by omega) hf0_1 (by assumption)), hM.rel⟩
    · skip
      have hc3 := bnot_f hc3
      have hc3 := of_decide_eq_true hc3
      refine wc_skip ?_
      refine sq_n ?_
      refine wc_seq ?_
      refine wc_region ?_
      refine wv rfl (r_move rfl) ?_
      refine wv rfl (r_add rfl rfl ⟨by omega, by omega⟩) ?_
      refine wv rfl (r_assign rfl) ?_
      refine wl_nil ?_
      refine sq_n ?_
      refine wc_seq ?_
      refine wc_seq ?_
      refine wc_region ?_
      refine wv rfl (r_move rfl) ?_
      refine wv rfl (r_move rfl) ?_
      refine wv rfl (r_ixF Try.underlying25 sz50 rfl rfl (hM.arg (.head _)) ⟨by omega, by omega⟩) ?_
      refine wv rfl (r_fldF (i := j) Try.underlying50 rfl rfl sz3 rfl (hM.arg (.head _)) (by omega)) ?_
      refine wv rfl (r_ldF (i := j) (j := 1) mk0 Try.underlying3 rfl rfl (hM.arg (.head _)) (by omega) rfl) ?_
      refine wv rfl (r_move rfl) ?_
      refine wv rfl (r_neq rfl rfl) ?_
      refine wl_nil ?_
      refine sq_n ?_
      refine wc_cond rfl (fun hc4 => ?_) (fun hc4 => ?_)
      · skip
        have hc4 := bnot_t hc4
        have hc4 := of_decide_eq_false hc4
        refine wc_seq ?_
        refine wc_region ?_
        refine wv rfl (r_assign rfl) ?_
        refine wl_nil ?_
        refine sq_n ?_
        refine wc_ret ?_
        refine sq_ret ?_
        refine bk_ret ?_
        refine sq_ret ?_
        refine lp1_ret ?_
        refine bk_ret ?_
        refine sq_ret ?_
        refine fin_ret [(.int .i64 (-1))] ⟨rfl, trivial⟩ ?_
        exact ⟨vint (heldM_stop2 (j := j) (by omega) hf0_1 (by assumption) (by assumption)), hM.rel⟩
      · skip
        have hc4 := bnot_f hc4
        have hc4 := of_decide_eq_true hc4
        refine wc_skip ?_
        refine sq_n ?_
        refine wc_seq ?_
        refine wc_region ?_
        refine wv rfl (r_move rfl) ?_
        refine wv rfl (r_add rfl rfl ⟨by omega, by omega⟩) ?_
        refine wv rfl (r_assign rfl) ?_
        refine wl_nil ?_
        refine sq_n ?_
        refine wc_seq ?_
        refine wc_seq ?_
        refine wc_region ?_
        refine wv rfl (r_move rfl) ?_
        refine wv rfl (r_move rfl) ?_
        refine wv rfl (r_ixF Try.underlying25 sz50 rfl rfl (hM.arg (.head _)) ⟨by omega, by omega⟩) ?_
        refine wv rfl (r_fldF (i := j) Try.underlying50 rfl rfl sz3 rfl (hM.arg (.head _)) (by omega)) ?_
        refine wv rfl (r_ldF (i := j) (j := 2) mk0 Try.underlying3 rfl rfl (hM.arg (.head _)) (by omega) rfl) ?_
        refine wv rfl (r_move rfl) ?_
        refine wv rfl (r_neq rfl rfl) ?_
        refine wl_nil ?_
        refine sq_n ?_
        refine wc_cond rfl (fun hc5 => ?_) (fun hc5 => ?_)
        · skip
          have hc5 := bnot_t hc5
          have hc5 := of_decide_eq_false hc5
          refine wc_seq ?_
          refine wc_region ?_
          refine wv rfl (r_assign rfl) ?_
          refine wl_nil ?_
          refine sq_n ?_
          refine wc_ret ?_
          refine sq_ret ?_
          refine bk_ret ?_
          refine sq_ret ?_
          refine lp1_ret ?_
          refine bk_ret ?_
          refine sq_ret ?_
          refine fin_ret [(.int .i64 (-1))] ⟨rfl, trivial⟩ ?_
          exact ⟨vint (heldM_stop3 (j := j) (by omega) hf0_1 (by assumption) (by assumption) (by assumption)), hM.rel⟩
        · skip
          have hc5 := bnot_f hc5
          have hc5 := of_decide_eq_true hc5
          refine wc_skip ?_
          refine sq_n ?_
          refine wc_region ?_
          refine wv rfl (r_move rfl) ?_
          refine wv rfl (r_add rfl rfl ⟨by omega, by omega⟩) ?_
          refine wv rfl (r_assign rfl) ?_
          refine wl_nil ?_
          refine bk_n ?_
          refine sq_n ?_
          refine wc_region ?_
          refine wv rfl (r_move rfl) ?_
          refine wv rfl (r_add rfl rfl ⟨by omega, by omega⟩) ?_
          refine wv rfl (r_assign rfl) ?_
          refine wl_nil ?_
          exact lp_end1 (j + 1) (by omega) ⟨rfl, icongr (by omega), rfl, trivial⟩ ⟨hM, (by omega), (heldM_step (by omega) hf0_1 (by assumption) (by assumption) (by assumption))⟩
  · skip
    have hc2 := of_decide_eq_false hc2
    refine wc_exit ?_
    refine sq_exit ?_
    refine lp1_exit ?_
    refine bk_here ?_
    refine sq_n ?_
    refine wc_seq ?_
    refine wc_region ?_
    refine wv rfl (r_move rfl) ?_
    refine wv rfl (r_assign rfl) ?_
    refine wl_nil ?_
    refine sq_n ?_
    refine wc_ret ?_
    refine fin_ret [(.int .i64 (k + 3 * (j : Int)))] ⟨rfl, trivial⟩ ?_
    exact ⟨vint (heldM_end (j := j) (by omega) hf0_1), hM.rel⟩

end Go.Proofs.Ytenkkffokomonaa
