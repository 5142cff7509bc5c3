/- Walks of functions of this program (printed by a program of ours, by the rules of the layer). No condition. -/
import Derived.Test.YthnnhoabdhhkaaaWP
namespace Go.Proofs.Ythnnhoabdhhkaaa
open Go.RowKit

theorem ct_spec_l02Sum (w : World) (v_o : Value) (o : List PV) (a_o : Arg w [v_o] (dDeep 3 fP iP o)) : Ret Try.prog 132 [v_o] w (fun u w' => u = .tuple #[.int .i64 ((sum3 (pa o)).1), .int .i64 ((sum3 (pa o)).2.1), .int .i64 ((sum3 (pa o)).2.2)] ∧ Rel w w') := by
  refine enter Try.func132 rfl Try.ntmps132 (by kernel_rfl) rfl ?_
  have hM := St.init w
  have hM := hM.addA a_o
  have hl_o := Fs.le (Deep.fl a_o)
  refine wc_seq ?_
  refine wc_region ?_
  refine wv rfl (r_assign rfl) ?_
  refine wv rfl (r_assign rfl) ?_
  refine wv rfl (r_assign rfl) ?_
  refine wl_nil ?_
  refine sq_n ?_
  refine wc_seq ?_
  refine wc_region ?_
  refine wv rfl (r_assign rfl) ?_
  refine wl_nil ?_
  refine sq_n ?_
  refine wc_seq ?_
  refine wc_region ?_
  refine wv rfl (r_assign rfl) ?_
  refine wl_nil ?_
  refine sq_n ?_
  refine wc_seq ?_
  refine wc_region ?_
  refine wv rfl (r_assign rfl) ?_
  refine wl_nil ?_
  refine sq_n ?_
  refine wc_seq ?_
  refine wc_seq ?_
  refine wc_region ?_
  refine wv rfl (r_move rfl) ?_
  refine w_call rfl rfl (ct_spec_l02Parts _ _ o (hM.arg (.head _))) ?_
  rintro _ w1 ⟨rfl, hR2⟩
  have hM := hM.call hR2
  refine wv rfl (r_not rfl) ?_
  refine wl_nil ?_
  refine sq_n ?_
  refine wc_cond rfl (fun hc3 => ?_) (fun hc3 => ?_)
  · skip
    have hc3 := bnot_t hc3
    have hy := sum3_no hc3
    refine wc_seq ?_
    refine wc_region ?_
    refine wv rfl (r_assign rfl) ?_
    refine wv rfl (r_assign rfl) ?_
    refine wv rfl (r_assign rfl) ?_
    refine wl_nil ?_
    refine sq_n ?_
    refine wc_ret ?_
    refine sq_ret ?_
    refine fin_ret [(.int .i64 0), (.int .i64 0), (.int .i64 0)] ⟨rfl, rfl, rfl, trivial⟩ ?_
    exact ⟨tup3 (vint (by rw [hy])) (vint (by rw [hy])) (vint (by rw [hy])), hM.rel⟩
  · skip
    have hc3 := bnot_f hc3
    have hpo := hc3
    have hpl := partsOk_len hc3
    have hpl2 := pa_len o
    refine wc_skip ?_
    refine sq_n ?_
    refine wc_seq ?_
    refine wc_seq ?_
    refine wc_region ?_
    refine wv rfl (r_move rfl) ?_
    refine wv rfl (r_lenF Try.underlying41 rfl (Deep.fl (hM.arg (.head _)))) ?_
    refine wv rfl (r_move rfl) ?_
    refine wl_nil ?_
    refine sq_n ?_
    refine wc_block ?_
    refine wc_loop1 (fun (k : Nat) => [(5, (.int .i64 (sumBy (gKind 1) (pa (o.take k))))), (6, (.int .i64 (sumBy (gKind 2) (pa (o.take k))))), (7, (.int .i64 (sumBy (gKind 3) (pa (o.take k))))), (13, v_o), (14, (.int .i64 (o.length : Int))), (15, (.int .i64 (k : Int)))]) (fun (k : Nat) w' => St (b0 w) [] [([v_o], dDeep 3 fP iP o)] w' ∧ (k ≤ o.length)) (fun (k : Nat) => o.length - k) 0 ⟨rfl, rfl, rfl, rfl, rfl, rfl, trivial⟩ ⟨hM, (by omega)⟩ ?_
    rintro k w4 ⟨hM, hf0_0⟩
    have hs1 := gKind_bd (k := 1) hpo k
    have hs2 := gKind_bd (k := 2) hpo k
    have hs3 := gKind_bd (k := 3) hpo k
    rw [← pa_take] at hs1 hs2 hs3
    refine wc_seq ?_
    refine wc_region ?_
    refine wv rfl (r_lss rfl rfl) ?_
    refine wl_nil ?_
    refine sq_n ?_
    refine wc_seq ?_
    refine wc_cond rfl (fun hc5 => ?_) (fun hc5 => ?_)
    · skip
      have hc5 := of_decide_eq_true hc5
      have hok := partsOk_mem hpo _ (pa_mem (l := o) (i := k) (by omega))
      have hpn : 0 ≤ (o.getD k pv0).n ∧ (o.getD k pv0).n ≤ 200 ∧ ((o.getD k pv0).sl.length : Int) ≤ 200 := part_n hok
      refine wc_skip ?_
      refine sq_n ?_
      refine wc_seq ?_
      refine wc_block ?_
      refine wc_seq ?_
      refine wc_region ?_
      refine wv rfl (r_ixF Try.underlying41 sz83 rfl rfl (Deep.fl (hM.arg (.head _))) ⟨by omega, by omega⟩) ?_
      have hM := hM.more (Deep.elem (hM.see (.head _)) (i := k) pv0 (by omega) (r := ([(o.getD k pv0).sv.v], dFs 1 fI ((o.getD k pv0).sl))) (.head _))
      refine wv rfl (r_ldFS (i := k) pv0 Try.underlying83 sz83 (fun _ => rfl) rfl (Deep.fl (hM.arg (.tail _ (.head _)))) (by omega)) ?_
      refine w_alloc rfl sz83 hM ?_; intro b6 w7 hM
      refine w_stB sz83 rfl rfl rfl hM rfl rfl ?_; intro w8 hM
      refine wl_nil ?_
      refine sq_n ?_
      refine wc_seq ?_
      refine wc_region ?_
      refine wv rfl (r_fld Try.underlying83 rfl rfl sz3 rfl) ?_
      refine wv rfl (r_ldB Try.underlying3 rfl rfl (hM.at' (.head _)) rfl) ?_
      refine wl_nil ?_
      refine sq_n ?_
      refine wc_block ?_
      refine wc_seq ?_
      refine wc_region ?_
      refine wv rfl (r_eql rfl rfl) ?_
      refine wv rfl (r_assign rfl) ?_
      refine wl_nil ?_
      refine sq_n ?_
      refine wc_cond rfl (fun hc9 => ?_) (fun hc9 => ?_)
      · skip
        have hc9 := of_decide_eq_true hc9
        refine wc_region ?_
        refine wv rfl (r_move rfl) ?_
        refine wv rfl (r_fld Try.underlying83 rfl rfl sz3 rfl) ?_
        refine wv rfl (r_ldB Try.underlying3 rfl rfl (hM.at' (.head _)) rfl) ?_
        refine wv rfl (r_add rfl rfl ⟨by omega, by omega⟩) ?_
        refine wv rfl (r_assign rfl) ?_
        refine wl_nil ?_
        refine bk_n ?_
        refine bk_n ?_
        refine sq_n ?_
        refine wc_region ?_
        refine wv rfl (r_add rfl rfl ⟨by omega, by omega⟩) ?_
        refine wv rfl (r_move rfl) ?_
        refine wl_nil ?_
        have hM := hM.drop
        have hM := hM.lessR
        have hs := s3_1 hok (by assumption)
        exact lp_end1 (k + 1) (by omega) ⟨icongr (by rw [pa_sum _ _ _ (by omega), hs.1]; rfl), icongr (by rw [pa_sum _ _ _ (by omega), hs.2.1]; omega), icongr (by rw [pa_sum _ _ _ (by omega), hs.2.2]; omega), rfl, rfl, rfl, trivial⟩ ⟨hM, (by omega)⟩
      · skip
        have hc9 := of_decide_eq_false hc9
        refine wc_seq ?_
        refine wc_region ?_
        refine wv rfl (r_eql rfl rfl) ?_
        refine wv rfl (r_assign rfl) ?_
        refine wl_nil ?_
        refine sq_n ?_
        refine wc_cond rfl (fun hc10 => ?_) (fun hc10 => ?_)
        · skip
          have hc10 := of_decide_eq_true hc10
          refine wc_region ?_
          refine wv rfl (r_move rfl) ?_
          refine wv rfl (r_fld Try.underlying83 rfl rfl sz22 rfl) ?_
          refine wv rfl (r_ldB Try.underlying22 rfl rfl (hM.at' (.head _)) rfl) ?_
          refine wv rfl (r_lenF Try.underlying22 rfl (hM.arg (.head _))) ?_
          refine wv rfl (r_add rfl rfl ⟨by omega, by omega⟩) ?_
          refine wv rfl (r_assign rfl) ?_
          refine wl_nil ?_
          refine bk_n ?_
          refine bk_n ?_
          refine sq_n ?_
          refine wc_region ?_
          refine wv rfl (r_add rfl rfl ⟨by omega, by omega⟩) ?_
          refine wv rfl (r_move rfl) ?_
          refine wl_nil ?_
          have hM := hM.drop
          have hM := hM.lessR
          have hs := s3_2 hok (by assumption)
          exact lp_end1 (k + 1) (by omega) ⟨icongr (by rw [pa_sum _ _ _ (by omega), hs.1]; omega), icongr (by rw [pa_sum _ _ _ (by omega), hs.2.1]; rfl), icongr (by rw [pa_sum _ _ _ (by omega), hs.2.2]; omega), rfl, rfl, rfl, trivial⟩ ⟨hM, (by omega)⟩
        · skip
          have hc10 := of_decide_eq_false hc10
          refine wc_region ?_
          refine wv rfl (r_move rfl) ?_
          refine wv rfl (r_fld Try.underlying83 rfl rfl sz3 rfl) ?_
          refine wv rfl (r_ldB Try.underlying3 rfl rfl (hM.at' (.head _)) rfl) ?_
          refine wv rfl (r_add rfl rfl ⟨by omega, by omega⟩) ?_
          refine wv rfl (r_assign rfl) ?_
          refine wl_nil ?_
          refine bk_n ?_
          refine bk_n ?_
          refine sq_n ?_
          refine wc_region ?_
          refine wv rfl (r_add rfl rfl ⟨by omega, by omega⟩) ?_
          refine wv rfl (r_move rfl) ?_
          refine wl_nil ?_
          have hM := hM.drop
          have hM := hM.lessR
          have hs := s3_3 hok (by assumption) (by assumption)
          exact lp_end1 (k + 1) (by omega) ⟨icongr (by rw [pa_sum _ _ _ (by omega), hs.1]; omega), icongr (by rw [pa_sum _ _ _ (by omega), hs.2.1]; omega), icongr (by rw [pa_sum _ _ _ (by omega), hs.2.2]; rfl), rfl, rfl, rfl, trivial⟩ ⟨hM, (by omega)⟩
    · skip
      have hc5 := of_decide_eq_false hc5
      refine wc_exit ?_
      refine sq_exit ?_
      refine lp1_exit ?_
      refine bk_here ?_
      refine sq_n ?_
      refine wc_seq ?_
      refine wc_region ?_
      refine wv rfl (r_move rfl) ?_
      refine wv rfl (r_move rfl) ?_
      refine wv rfl (r_move rfl) ?_
      refine wv rfl (r_assign rfl) ?_
      refine wv rfl (r_assign rfl) ?_
      refine wv rfl (r_assign rfl) ?_
      refine wl_nil ?_
      refine sq_n ?_
      refine wc_ret ?_
      have hy := sum3_yes hpo
      refine fin_ret [(.int .i64 (sumBy (gKind 1) (pa (o.take k)))), (.int .i64 (sumBy (gKind 2) (pa (o.take k)))), (.int .i64 (sumBy (gKind 3) (pa (o.take k))))] ⟨rfl, rfl, rfl, trivial⟩ ?_
      exact ⟨tup3 (vint (by rw [hy, pa_full (by omega)])) (vint (by rw [hy, pa_full (by omega)])) (vint (by rw [hy, pa_full (by omega)])), hM.rel⟩

theorem ct_spec_OpFrom (w : World) (v_o : Value) (o : List PV) (a_o : Arg w [v_o] (dDeep 3 fP iP o)) : Ret Try.prog 150 [v_o] w (fun u w' => u = .int .i64 (opFrom (pa o)) ∧ Rel w w') := by
  refine enter Try.func150 rfl Try.ntmps150 (by kernel_rfl) rfl ?_
  have hM := St.init w
  have hM := hM.addA a_o
  have hl_o := Fs.le (Deep.fl a_o)
  have hb3 := sum3_bd (pa o)
  refine wc_seq ?_
  refine wc_region ?_
  refine wv rfl (r_assign rfl) ?_
  refine wl_nil ?_
  refine sq_n ?_
  refine wc_seq ?_
  refine wc_region ?_
  refine wv rfl (r_move rfl) ?_
  refine w_call rfl rfl (ct_spec_l02Sum _ _ o (hM.arg (.head _))) ?_
  rintro _ w1 ⟨rfl, hR2⟩
  have hM := hM.call hR2
  refine wv rfl (r_move rfl) ?_
  refine wv rfl (r_extract rfl rfl) ?_
  refine wv rfl (r_extract rfl rfl) ?_
  refine wv rfl (r_extract rfl rfl) ?_
  refine wv rfl (r_assign rfl) ?_
  refine wv rfl (r_assign rfl) ?_
  refine wv rfl (r_assign rfl) ?_
  refine wl_nil ?_
  refine sq_n ?_
  refine wc_seq ?_
  refine wc_region ?_
  refine wv rfl (r_move rfl) ?_
  refine wv rfl (r_move rfl) ?_
  refine wv rfl (r_add rfl rfl ⟨by omega, by omega⟩) ?_
  refine wv rfl (r_assign rfl) ?_
  refine wl_nil ?_
  refine sq_n ?_
  refine wc_ret ?_
  refine fin_ret [(.int .i64 (((sum3 (pa o)).1) + ((sum3 (pa o)).2.2)))] ⟨rfl, trivial⟩ ?_
  exact ⟨vint ((opFrom_eq (pa o)).symm), hM.rel⟩

theorem ct_spec_OpTo (w : World) (v_o : Value) (o : List PV) (a_o : Arg w [v_o] (dDeep 3 fP iP o)) : Ret Try.prog 151 [v_o] w (fun u w' => u = .int .i64 (opTo (pa o)) ∧ Rel w w') := by
  refine enter Try.func151 rfl Try.ntmps151 (by kernel_rfl) rfl ?_
  have hM := St.init w
  have hM := hM.addA a_o
  have hl_o := Fs.le (Deep.fl a_o)
  have hb3 := sum3_bd (pa o)
  refine wc_seq ?_
  refine wc_region ?_
  refine wv rfl (r_assign rfl) ?_
  refine wl_nil ?_
  refine sq_n ?_
  refine wc_seq ?_
  refine wc_region ?_
  refine wv rfl (r_move rfl) ?_
  refine w_call rfl rfl (ct_spec_l02Sum _ _ o (hM.arg (.head _))) ?_
  rintro _ w1 ⟨rfl, hR2⟩
  have hM := hM.call hR2
  refine wv rfl (r_move rfl) ?_
  refine wv rfl (r_extract rfl rfl) ?_
  refine wv rfl (r_extract rfl rfl) ?_
  refine wv rfl (r_extract rfl rfl) ?_
  refine wv rfl (r_assign rfl) ?_
  refine wv rfl (r_assign rfl) ?_
  refine wv rfl (r_assign rfl) ?_
  refine wl_nil ?_
  refine sq_n ?_
  refine wc_seq ?_
  refine wc_region ?_
  refine wv rfl (r_move rfl) ?_
  refine wv rfl (r_move rfl) ?_
  refine wv rfl (r_add rfl rfl ⟨by omega, by omega⟩) ?_
  refine wv rfl (r_assign rfl) ?_
  refine wl_nil ?_
  refine sq_n ?_
  refine wc_ret ?_
  refine fin_ret [(.int .i64 (((sum3 (pa o)).1) + ((sum3 (pa o)).2.1)))] ⟨rfl, trivial⟩ ?_
  exact ⟨vint ((opTo_eq (pa o)).symm), hM.rel⟩

theorem ct_impl_OpOk (w : World) (v_o : Value) (o : List PV) (a_o : Arg w [v_o] (dDeep 3 fP iP o)) : Ret Try.prog 108 [v_o] w (fun u w' => u = .bool (opOk (pa o)) ∧ Rel w w') := by
  refine enter Try.func108 rfl Try.ntmps108 (by kernel_rfl) rfl ?_
  have hM := St.init w
  have hM := hM.addA a_o
  have hl_o := Fs.le (Deep.fl a_o)
  refine wc_seq ?_
  refine wc_region ?_
  refine wv rfl (r_assign rfl) ?_
  refine wl_nil ?_
  refine sq_n ?_
  refine wc_seq ?_
  refine wc_region ?_
  refine wv rfl (r_move rfl) ?_
  refine w_call rfl rfl (ct_impl_partsOk _ _ o (hM.arg (.head _))) ?_
  rintro _ w1 ⟨rfl, hR2⟩
  have hM := hM.call hR2
  refine wv rfl (r_move rfl) ?_
  refine wl_mid 4 (fun _ : Unit => [(9, (.bool ((partsOk (pa o)) && (decide ((opFrom (pa o)) ≤ 200))))), (0, v_o)]) (fun _ w' => St (b0 w) [] [([v_o], dDeep 3 fP iP o)] w') ?_ ?_
  · rcases Bool.eq_false_or_eq_true (partsOk (pa o)) with hg3 | hg3
    · skip
      refine gv rfl hg3 rfl (r_move rfl) ?_
      refine gc rfl hg3 rfl rfl (ct_impl_OpFrom _ _ o (hM.arg (.head _))) ?_
      rintro _ w4 ⟨rfl, hR5⟩
      have hM := hM.call hR5
      refine gv rfl hg3 rfl (r_leq rfl rfl) ?_
      refine wv rfl (p_t rfl hg3 rfl) ?_
      exact mid_nil () ⟨bcongr (and_t hg3), rfl, trivial⟩ hM
    · skip
      refine gs rfl (isB_no hg3) rfl ?_
      refine gs rfl (isB_no hg3) rfl ?_
      refine gs rfl (isB_no hg3) rfl ?_
      refine wv rfl (p_f rfl hg3 rfl) ?_
      exact mid_nil () ⟨bcongr (and_f hg3), rfl, trivial⟩ hM
  rintro _ w6 hM
  refine wv rfl (r_move rfl) ?_
  refine wl_mid 4 (fun _ : Unit => [(14, (.bool (((partsOk (pa o)) && (decide ((opFrom (pa o)) ≤ 200))) && (decide ((opTo (pa o)) ≤ 200)))))]) (fun _ w' => St (b0 w) [] [([v_o], dDeep 3 fP iP o)] w') ?_ ?_
  · rcases Bool.eq_false_or_eq_true ((partsOk (pa o)) && (decide ((opFrom (pa o)) ≤ 200))) with hg7 | hg7
    · skip
      refine gv rfl hg7 rfl (r_move rfl) ?_
      refine gc rfl hg7 rfl rfl (ct_impl_OpTo _ _ o (hM.arg (.head _))) ?_
      rintro _ w8 ⟨rfl, hR9⟩
      have hM := hM.call hR9
      refine gv rfl hg7 rfl (r_leq rfl rfl) ?_
      refine wv rfl (p_t rfl hg7 rfl) ?_
      exact mid_nil () ⟨bcongr (and_t hg7), trivial⟩ hM
    · skip
      refine gs rfl (isB_no hg7) rfl ?_
      refine gs rfl (isB_no hg7) rfl ?_
      refine gs rfl (isB_no hg7) rfl ?_
      refine wv rfl (p_f rfl hg7 rfl) ?_
      exact mid_nil () ⟨bcongr (and_f hg7), trivial⟩ hM
  rintro _ w10 hM
  refine wv rfl (r_assign rfl) ?_
  refine wl_nil ?_
  refine sq_n ?_
  refine wc_ret ?_
  refine fin_ret [(.bool (((partsOk (pa o)) && (decide ((opFrom (pa o)) ≤ 200))) && (decide ((opTo (pa o)) ≤ 200))))] ⟨rfl, trivial⟩ ?_
  exact ⟨vbool ((opOk_def (pa o)).symm), hM.rel⟩

theorem ct_spec_OpOk (w : World) (v_o : Value) (o : List PV) (a_o : Arg w [v_o] (dDeep 3 fP iP o)) : Ret Try.prog 131 [v_o] w (fun u w' => u = .bool (opOk (pa o)) ∧ Rel w w') := by
  refine enter Try.func131 rfl Try.ntmps131 (by kernel_rfl) rfl ?_
  have hM := St.init w
  have hM := hM.addA a_o
  have hl_o := Fs.le (Deep.fl a_o)
  refine wc_seq ?_
  refine wc_region ?_
  refine wv rfl (r_assign rfl) ?_
  refine wl_nil ?_
  refine sq_n ?_
  refine wc_seq ?_
  refine wc_region ?_
  refine wv rfl (r_move rfl) ?_
  refine w_call rfl rfl (ct_spec_l02Parts _ _ o (hM.arg (.head _))) ?_
  rintro _ w1 ⟨rfl, hR2⟩
  have hM := hM.call hR2
  refine wv rfl (r_move rfl) ?_
  refine wl_mid 4 (fun _ : Unit => [(9, (.bool ((partsOk (pa o)) && (decide ((opFrom (pa o)) ≤ 200))))), (0, v_o)]) (fun _ w' => St (b0 w) [] [([v_o], dDeep 3 fP iP o)] w') ?_ ?_
  · rcases Bool.eq_false_or_eq_true (partsOk (pa o)) with hg3 | hg3
    · skip
      refine gv rfl hg3 rfl (r_move rfl) ?_
      refine gc rfl hg3 rfl rfl (ct_spec_OpFrom _ _ o (hM.arg (.head _))) ?_
      rintro _ w4 ⟨rfl, hR5⟩
      have hM := hM.call hR5
      refine gv rfl hg3 rfl (r_leq rfl rfl) ?_
      refine wv rfl (p_t rfl hg3 rfl) ?_
      exact mid_nil () ⟨bcongr (and_t hg3), rfl, trivial⟩ hM
    · skip
      refine gs rfl (isB_no hg3) rfl ?_
      refine gs rfl (isB_no hg3) rfl ?_
      refine gs rfl (isB_no hg3) rfl ?_
      refine wv rfl (p_f rfl hg3 rfl) ?_
      exact mid_nil () ⟨bcongr (and_f hg3), rfl, trivial⟩ hM
  rintro _ w6 hM
  refine wv rfl (r_move rfl) ?_
  refine wl_mid 4 (fun _ : Unit => [(14, (.bool (((partsOk (pa o)) && (decide ((opFrom (pa o)) ≤ 200))) && (decide ((opTo (pa o)) ≤ 200)))))]) (fun _ w' => St (b0 w) [] [([v_o], dDeep 3 fP iP o)] w') ?_ ?_
  · rcases Bool.eq_false_or_eq_true ((partsOk (pa o)) && (decide ((opFrom (pa o)) ≤ 200))) with hg7 | hg7
    · skip
      refine gv rfl hg7 rfl (r_move rfl) ?_
      refine gc rfl hg7 rfl rfl (ct_spec_OpTo _ _ o (hM.arg (.head _))) ?_
      rintro _ w8 ⟨rfl, hR9⟩
      have hM := hM.call hR9
      refine gv rfl hg7 rfl (r_leq rfl rfl) ?_
      refine wv rfl (p_t rfl hg7 rfl) ?_
      exact mid_nil () ⟨bcongr (and_t hg7), trivial⟩ hM
    · skip
      refine gs rfl (isB_no hg7) rfl ?_
      refine gs rfl (isB_no hg7) rfl ?_
      refine gs rfl (isB_no hg7) rfl ?_
      refine wv rfl (p_f rfl hg7 rfl) ?_
      exact mid_nil () ⟨bcongr (and_f hg7), trivial⟩ hM
  rintro _ w10 hM
  refine wv rfl (r_assign rfl) ?_
  refine wl_nil ?_
  refine sq_n ?_
  refine wc_ret ?_
  refine fin_ret [(.bool (((partsOk (pa o)) && (decide ((opFrom (pa o)) ≤ 200))) && (decide ((opTo (pa o)) ≤ 200))))] ⟨rfl, trivial⟩ ?_
  exact ⟨vbool ((opOk_def (pa o)).symm), hM.rel⟩

theorem ct_impl_sizeOfKind (w : World) (v_o : Value) (o : List PV) (a_o : Arg w [v_o] (dDeep 3 fP iP o)) (kind : Int) : Ret Try.prog 133 [v_o, .int .i64 kind] w (fun u w' => u = .int .i64 (if opOk (pa o) then sumBy (gKind kind) (pa o) else 0) ∧ Rel w w') := by
  refine enter Try.func133 rfl Try.ntmps133 (by kernel_rfl) rfl ?_
  have hM := St.init w
  have hM := hM.addA a_o
  have hl_o := Fs.le (Deep.fl a_o)
  refine wc_seq ?_
  refine wc_region ?_
  refine wv rfl (r_assign rfl) ?_
  refine wl_nil ?_
  refine sq_n ?_
  refine wc_seq ?_
  refine wc_seq ?_
  refine wc_region ?_
  refine wv rfl (r_move rfl) ?_
  refine w_call rfl rfl (ct_impl_OpOk _ _ o (hM.arg (.head _))) ?_
  rintro _ w1 ⟨rfl, hR2⟩
  have hM := hM.call hR2
  refine wv rfl (r_not rfl) ?_
  refine wl_nil ?_
  refine sq_n ?_
  refine wc_cond rfl (fun hc3 => ?_) (fun hc3 => ?_)
  · skip
    have hc3 := bnot_t hc3
    refine wc_seq ?_
    refine wc_region ?_
    refine wv rfl (r_assign rfl) ?_
    refine wl_nil ?_
    refine sq_n ?_
    refine wc_ret ?_
    refine sq_ret ?_
    refine fin_ret [(.int .i64 0)] ⟨rfl, trivial⟩ ?_
    exact ⟨vint (szk_no (by assumption)), hM.rel⟩
  · skip
    have hc3 := bnot_f hc3
    have hop := hc3
    have hpo := opOk_parts hc3
    have hpl := partsOk_len hpo
    have hpl2 := pa_len o
    refine wc_skip ?_
    refine sq_n ?_
    refine wc_seq ?_
    refine wc_region ?_
    refine wv rfl (r_assign rfl) ?_
    refine wl_nil ?_
    refine sq_n ?_
    refine wc_seq ?_
    refine wc_seq ?_
    refine wc_region ?_
    refine wv rfl (r_move rfl) ?_
    refine wv rfl (r_lenF Try.underlying41 rfl (Deep.fl (hM.arg (.head _)))) ?_
    refine wv rfl (r_move rfl) ?_
    refine wl_nil ?_
    refine sq_n ?_
    refine wc_block ?_
    refine wc_loop1 (fun (k : Nat) => [(1, (.int .i64 kind)), (5, (.int .i64 (sumBy (gKind kind) (pa (o.take k))))), (11, v_o), (12, (.int .i64 (o.length : Int))), (13, (.int .i64 (k : Int)))]) (fun (k : Nat) w' => St (b0 w) [] [([v_o], dDeep 3 fP iP o)] w' ∧ (k ≤ o.length)) (fun (k : Nat) => o.length - k) 0 ⟨rfl, rfl, rfl, rfl, rfl, trivial⟩ ⟨hM, (by omega)⟩ ?_
    rintro k w4 ⟨hM, hf0_0⟩
    have hsb := gKind_bd (k := kind) hpo k
    rw [← pa_take] at hsb
    refine wc_seq ?_
    refine wc_region ?_
    refine wv rfl (r_lss rfl rfl) ?_
    refine wl_nil ?_
    refine sq_n ?_
    refine wc_seq ?_
    refine wc_cond rfl (fun hc5 => ?_) (fun hc5 => ?_)
    · skip
      have hc5 := of_decide_eq_true hc5
      refine wc_skip ?_
      refine sq_n ?_
      refine wc_seq ?_
      refine wc_block ?_
      refine wc_seq ?_
      refine wc_region ?_
      refine wv rfl (r_ixF Try.underlying41 sz83 rfl rfl (Deep.fl (hM.arg (.head _))) ⟨by omega, by omega⟩) ?_
      have hM := hM.more (Deep.elem (hM.see (.head _)) (i := k) pv0 (by omega) (r := ([(o.getD k pv0).sv.v], dFs 1 fI ((o.getD k pv0).sl))) (.head _))
      refine wv rfl (r_ldFS (i := k) pv0 Try.underlying83 sz83 (fun _ => rfl) rfl (Deep.fl (hM.arg (.tail _ (.head _)))) (by omega)) ?_
      refine w_alloc rfl sz83 hM ?_; intro b6 w7 hM
      refine w_stB sz83 rfl rfl rfl hM rfl rfl ?_; intro w8 hM
      refine wl_nil ?_
      refine sq_n ?_
      refine wc_seq ?_
      refine wc_region ?_
      refine wv rfl (r_fld Try.underlying83 rfl rfl sz3 rfl) ?_
      refine wv rfl (r_ldB Try.underlying3 rfl rfl (hM.at' (.head _)) rfl) ?_
      refine wv rfl (r_move rfl) ?_
      refine wv rfl (r_eql rfl rfl) ?_
      refine wl_nil ?_
      refine sq_n ?_
      refine wc_cond rfl (fun hc9 => ?_) (fun hc9 => ?_)
      · skip
        have hc9 := of_decide_eq_true hc9
        refine wc_region ?_
        refine wv rfl (r_move rfl) ?_
        refine wv rfl (r_ldBS Try.underlying83 sz83 rfl (cs := [(.int .i64 ((o.getD k pv0).kind)), (.int .i64 ((o.getD k pv0).n)), (o.getD k pv0).sv.v]) rfl (hM.at' (.head _))) ?_
        refine w_call rfl rfl (ct_impl_size _ (o.getD k pv0 : PV) (hM.arg (.head _)) (partsOk_mem hpo _ (pa_mem (by omega)))) ?_
        rintro _ w10 ⟨rfl, hR11⟩
        have hM := hM.call hR11
        have hsz := pSize_bd (partsOk_mem hpo _ (pa_mem (l := o) (i := k) (by omega)))
        refine wv rfl (r_add rfl rfl ⟨by omega, by omega⟩) ?_
        refine wv rfl (r_assign rfl) ?_
        refine wl_nil ?_
        refine bk_n ?_
        refine sq_n ?_
        refine wc_region ?_
        refine wv rfl (r_add rfl rfl ⟨by omega, by omega⟩) ?_
        refine wv rfl (r_move rfl) ?_
        refine wl_nil ?_
        have hM := hM.drop
        have hM := hM.lessR
        exact lp_end1 (k + 1) (by omega) ⟨rfl, icongr (by rw [pa_sum _ _ _ (by omega), gKind_y (by assumption)]), rfl, rfl, rfl, trivial⟩ ⟨hM, (by omega)⟩
      · skip
        have hc9 := of_decide_eq_false hc9
        refine wc_skip ?_
        refine bk_n ?_
        refine sq_n ?_
        refine wc_region ?_
        refine wv rfl (r_add rfl rfl ⟨by omega, by omega⟩) ?_
        refine wv rfl (r_move rfl) ?_
        refine wl_nil ?_
        have hM := hM.drop
        have hM := hM.lessR
        exact lp_end1 (k + 1) (by omega) ⟨rfl, icongr (by rw [pa_sum _ _ _ (by omega), gKind_n (by assumption)]; omega), rfl, rfl, rfl, trivial⟩ ⟨hM, (by omega)⟩
    · skip
      have hc5 := of_decide_eq_false hc5
      refine wc_exit ?_
      refine sq_exit ?_
      refine lp1_exit ?_
      refine bk_here ?_
      refine sq_n ?_
      refine wc_seq ?_
      refine wc_region ?_
      refine wv rfl (r_move rfl) ?_
      refine wv rfl (r_assign rfl) ?_
      refine wl_nil ?_
      refine sq_n ?_
      refine wc_ret ?_
      refine fin_ret [(.int .i64 (sumBy (gKind kind) (pa (o.take k))))] ⟨rfl, trivial⟩ ?_
      exact ⟨vint (szk_yes hop (k := k) (by omega)), hM.rel⟩

theorem ct_impl_Puts (w : World) (v_o : Value) (o : List PV) (a_o : Arg w [v_o] (dDeep 3 fP iP o)) : Ret Try.prog 84 [v_o] w (fun u w' => u = .int .i64 (puts (pa o)) ∧ Rel w w') := by
  refine enter Try.func84 rfl Try.ntmps84 (by kernel_rfl) rfl ?_
  have hM := St.init w
  have hM := hM.addA a_o
  have hl_o := Fs.le (Deep.fl a_o)
  refine wc_seq ?_
  refine wc_region ?_
  refine wv rfl (r_assign rfl) ?_
  refine wl_nil ?_
  refine sq_n ?_
  refine wc_seq ?_
  refine wc_region ?_
  refine wv rfl (r_move rfl) ?_
  refine w_call rfl rfl (ct_impl_sizeOfKind _ _ o (hM.arg (.head _)) (2 : Int)) ?_
  rintro _ w1 ⟨rfl, hR2⟩
  have hM := hM.call hR2
  refine wv rfl (r_assign rfl) ?_
  refine wl_nil ?_
  refine sq_n ?_
  refine wc_ret ?_
  refine fin_ret [(.int .i64 (if opOk (pa o) then sumBy (gKind 2) (pa o) else 0))] ⟨rfl, trivial⟩ ?_
  exact ⟨vint (rfl), hM.rel⟩

theorem ct_impl_Drops (w : World) (v_o : Value) (o : List PV) (a_o : Arg w [v_o] (dDeep 3 fP iP o)) : Ret Try.prog 85 [v_o] w (fun u w' => u = .int .i64 (drops (pa o)) ∧ Rel w w') := by
  refine enter Try.func85 rfl Try.ntmps85 (by kernel_rfl) rfl ?_
  have hM := St.init w
  have hM := hM.addA a_o
  have hl_o := Fs.le (Deep.fl a_o)
  refine wc_seq ?_
  refine wc_region ?_
  refine wv rfl (r_assign rfl) ?_
  refine wl_nil ?_
  refine sq_n ?_
  refine wc_seq ?_
  refine wc_region ?_
  refine wv rfl (r_move rfl) ?_
  refine w_call rfl rfl (ct_impl_sizeOfKind _ _ o (hM.arg (.head _)) (3 : Int)) ?_
  rintro _ w1 ⟨rfl, hR2⟩
  have hM := hM.call hR2
  refine wv rfl (r_assign rfl) ?_
  refine wl_nil ?_
  refine sq_n ?_
  refine wc_ret ?_
  refine fin_ret [(.int .i64 (if opOk (pa o) then sumBy (gKind 3) (pa o) else 0))] ⟨rfl, trivial⟩ ?_
  exact ⟨vint (rfl), hM.rel⟩

theorem ct_spec_Puts (w : World) (v_o : Value) (o : List PV) (a_o : Arg w [v_o] (dDeep 3 fP iP o)) : Ret Try.prog 81 [v_o] w (fun u w' => u = .int .i64 (puts (pa o)) ∧ Rel w w') := by
  refine enter Try.func81 rfl Try.ntmps81 (by kernel_rfl) rfl ?_
  have hM := St.init w
  have hM := hM.addA a_o
  have hl_o := Fs.le (Deep.fl a_o)
  refine wc_seq ?_
  refine wc_region ?_
  refine wv rfl (r_assign rfl) ?_
  refine wl_nil ?_
  refine sq_n ?_
  refine wc_seq ?_
  refine wc_seq ?_
  refine wc_region ?_
  refine wv rfl (r_move rfl) ?_
  refine w_call rfl rfl (ct_spec_OpOk _ _ o (hM.arg (.head _))) ?_
  rintro _ w1 ⟨rfl, hR2⟩
  have hM := hM.call hR2
  refine wv rfl (r_not rfl) ?_
  refine wl_nil ?_
  refine sq_n ?_
  refine wc_cond rfl (fun hc3 => ?_) (fun hc3 => ?_)
  · skip
    have hc3 := bnot_t hc3
    have hy : puts (pa o) = 0 := by rw [puts_eq, hc3]; rfl
    refine wc_seq ?_
    refine wc_region ?_
    refine wv rfl (r_assign rfl) ?_
    refine wl_nil ?_
    refine sq_n ?_
    refine wc_ret ?_
    refine sq_ret ?_
    refine fin_ret [(.int .i64 0)] ⟨rfl, trivial⟩ ?_
    exact ⟨vint (hy.symm), hM.rel⟩
  · skip
    have hc3 := bnot_f hc3
    have hy : puts (pa o) = (sum3 (pa o)).2.1 := by rw [puts_eq, hc3]; rfl
    refine wc_skip ?_
    refine sq_n ?_
    refine wc_seq ?_
    refine wc_region ?_
    refine wv rfl (r_move rfl) ?_
    refine w_call rfl rfl (ct_spec_l02Sum _ _ o (hM.arg (.head _))) ?_
    rintro _ w4 ⟨rfl, hR5⟩
    have hM := hM.call hR5
    refine wv rfl (r_move rfl) ?_
    refine wv rfl (r_extract rfl rfl) ?_
    refine wv rfl (r_extract rfl rfl) ?_
    refine wv rfl (r_extract rfl rfl) ?_
    refine wv rfl (r_assign rfl) ?_
    refine wv rfl (r_assign rfl) ?_
    refine wv rfl (r_assign rfl) ?_
    refine wl_nil ?_
    refine sq_n ?_
    refine wc_seq ?_
    refine wc_region ?_
    refine wv rfl (r_move rfl) ?_
    refine wv rfl (r_assign rfl) ?_
    refine wl_nil ?_
    refine sq_n ?_
    refine wc_ret ?_
    refine fin_ret [(.int .i64 ((sum3 (pa o)).2.1))] ⟨rfl, trivial⟩ ?_
    exact ⟨vint (hy.symm), hM.rel⟩

theorem ct_spec_Drops (w : World) (v_o : Value) (o : List PV) (a_o : Arg w [v_o] (dDeep 3 fP iP o)) : Ret Try.prog 82 [v_o] w (fun u w' => u = .int .i64 (drops (pa o)) ∧ Rel w w') := by
  refine enter Try.func82 rfl Try.ntmps82 (by kernel_rfl) rfl ?_
  have hM := St.init w
  have hM := hM.addA a_o
  have hl_o := Fs.le (Deep.fl a_o)
  refine wc_seq ?_
  refine wc_region ?_
  refine wv rfl (r_assign rfl) ?_
  refine wl_nil ?_
  refine sq_n ?_
  refine wc_seq ?_
  refine wc_seq ?_
  refine wc_region ?_
  refine wv rfl (r_move rfl) ?_
  refine w_call rfl rfl (ct_spec_OpOk _ _ o (hM.arg (.head _))) ?_
  rintro _ w1 ⟨rfl, hR2⟩
  have hM := hM.call hR2
  refine wv rfl (r_not rfl) ?_
  refine wl_nil ?_
  refine sq_n ?_
  refine wc_cond rfl (fun hc3 => ?_) (fun hc3 => ?_)
  · skip
    have hc3 := bnot_t hc3
    have hy : drops (pa o) = 0 := by rw [drops_eq, hc3]; rfl
    refine wc_seq ?_
    refine wc_region ?_
    refine wv rfl (r_assign rfl) ?_
    refine wl_nil ?_
    refine sq_n ?_
    refine wc_ret ?_
    refine sq_ret ?_
    refine fin_ret [(.int .i64 0)] ⟨rfl, trivial⟩ ?_
    exact ⟨vint (hy.symm), hM.rel⟩
  · skip
    have hc3 := bnot_f hc3
    have hy : drops (pa o) = (sum3 (pa o)).2.2 := by rw [drops_eq, hc3]; rfl
    refine wc_skip ?_
    refine sq_n ?_
    refine wc_seq ?_
    refine wc_region ?_
    refine wv rfl (r_move rfl) ?_
    refine w_call rfl rfl (ct_spec_l02Sum _ _ o (hM.arg (.head _))) ?_
    rintro _ w4 ⟨rfl, hR5⟩
    have hM := hM.call hR5
    refine wv rfl (r_move rfl) ?_
    refine wv rfl (r_extract rfl rfl) ?_
    refine wv rfl (r_extract rfl rfl) ?_
    refine wv rfl (r_extract rfl rfl) ?_
    refine wv rfl (r_assign rfl) ?_
    refine wv rfl (r_assign rfl) ?_
    refine wv rfl (r_assign rfl) ?_
    refine wl_nil ?_
    refine sq_n ?_
    refine wc_seq ?_
    refine wc_region ?_
    refine wv rfl (r_move rfl) ?_
    refine wv rfl (r_assign rfl) ?_
    refine wl_nil ?_
    refine sq_n ?_
    refine wc_ret ?_
    refine fin_ret [(.int .i64 ((sum3 (pa o)).2.2))] ⟨rfl, trivial⟩ ?_
    exact ⟨vint (hy.symm), hM.rel⟩

theorem ct_impl_Sparse (w : World) (v_o : Value) (o : List PV) (a_o : Arg w [v_o] (dDeep 3 fP iP o)) : Ret Try.prog 32 [v_o] w (fun u w' => u = .int .i64 (puts (pa o) + drops (pa o)) ∧ Rel w w') := by
  refine enter Try.func32 rfl Try.ntmps32 (by kernel_rfl) rfl ?_
  have hM := St.init w
  have hM := hM.addA a_o
  have hl_o := Fs.le (Deep.fl a_o)
  have hb1 := puts_bd (pa o)
  have hb2 := drops_bd (pa o)
  refine wc_seq ?_
  refine wc_region ?_
  refine wv rfl (r_assign rfl) ?_
  refine wl_nil ?_
  refine sq_n ?_
  refine wc_seq ?_
  refine wc_region ?_
  refine wv rfl (r_move rfl) ?_
  refine w_call rfl rfl (ct_impl_Puts _ _ o (hM.arg (.head _))) ?_
  rintro _ w1 ⟨rfl, hR2⟩
  have hM := hM.call hR2
  refine wv rfl (r_move rfl) ?_
  refine w_call rfl rfl (ct_impl_Drops _ _ o (hM.arg (.head _))) ?_
  rintro _ w3 ⟨rfl, hR4⟩
  have hM := hM.call hR4
  refine wv rfl (r_add rfl rfl ⟨by omega, by omega⟩) ?_
  refine wv rfl (r_assign rfl) ?_
  refine wl_nil ?_
  refine sq_n ?_
  refine wc_ret ?_
  refine fin_ret [(.int .i64 ((puts (pa o)) + (drops (pa o))))] ⟨rfl, trivial⟩ ?_
  exact ⟨vint (rfl), hM.rel⟩

theorem ct_spec_Sparse (w : World) (v_o : Value) (o : List PV) (a_o : Arg w [v_o] (dDeep 3 fP iP o)) : Ret Try.prog 30 [v_o] w (fun u w' => u = .int .i64 (puts (pa o) + drops (pa o)) ∧ Rel w w') := by
  refine enter Try.func30 rfl Try.ntmps30 (by kernel_rfl) rfl ?_
  have hM := St.init w
  have hM := hM.addA a_o
  have hl_o := Fs.le (Deep.fl a_o)
  have hb1 := puts_bd (pa o)
  have hb2 := drops_bd (pa o)
  refine wc_seq ?_
  refine wc_region ?_
  refine wv rfl (r_assign rfl) ?_
  refine wl_nil ?_
  refine sq_n ?_
  refine wc_seq ?_
  refine wc_region ?_
  refine wv rfl (r_move rfl) ?_
  refine w_call rfl rfl (ct_spec_Puts _ _ o (hM.arg (.head _))) ?_
  rintro _ w1 ⟨rfl, hR2⟩
  have hM := hM.call hR2
  refine wv rfl (r_move rfl) ?_
  refine w_call rfl rfl (ct_spec_Drops _ _ o (hM.arg (.head _))) ?_
  rintro _ w3 ⟨rfl, hR4⟩
  have hM := hM.call hR4
  refine wv rfl (r_add rfl rfl ⟨by omega, by omega⟩) ?_
  refine wv rfl (r_assign rfl) ?_
  refine wl_nil ?_
  refine sq_n ?_
  refine wc_ret ?_
  refine fin_ret [(.int .i64 ((puts (pa o)) + (drops (pa o))))] ⟨rfl, trivial⟩ ?_
  exact ⟨vint (rfl), hM.rel⟩

theorem ct_laws_szIntS (w : World) (v_a : Sv) (a : List Int) (left : Int) (a_a : ArgX (oStar []).fp w [v_a.v] (dFs 1 fI a)) (hp0 : 0 ≤ left ∧ left ≤ 1048576) : Ret Try.prog 130 [v_a.v, .int .i64 left] w (fun u w' => ∃ y : Int, u = .int .i64 y ∧ Gives (oStar []).fp w [] w' ∧ (y < 0 ∨ (0 ≤ y ∧ y ≤ left ∧ (a.length : Int) ≤ left))) := by
  refine enter Try.func130 rfl Try.ntmps130 (by kernel_rfl) rfl ?_
  have hM := St.enter0 w
  have hM := hM.addE (cs := [v_a.v]) (d := dFs 1 fI a) a_a
  have hl_a := Fs.le a_a
  refine wc_seq ?_
  refine wc_region ?_
  refine wv rfl (r_assign rfl) ?_
  refine wl_nil ?_
  refine sq_n ?_
  refine wc_seq ?_
  refine wc_region ?_
  refine wv rfl (r_move rfl) ?_
  refine wv rfl (r_move rfl) ?_
  refine wv rfl (r_lenF Try.underlying22 rfl (hM.arg (.head _))) ?_
  refine wv rfl (r_sub rfl rfl ⟨by omega, by omega⟩) ?_
  refine wv rfl (r_assign rfl) ?_
  refine wl_nil ?_
  refine sq_n ?_
  refine wc_seq ?_
  refine wc_seq ?_
  refine wc_region ?_
  refine wv rfl (r_move rfl) ?_
  refine wv rfl (r_lss rfl rfl) ?_
  refine wl_nil ?_
  refine sq_n ?_
  refine wc_cond rfl (fun hc1 => ?_) (fun hc1 => ?_)
  · skip
    have hc1 := of_decide_eq_true hc1
    refine wc_seq ?_
    refine wc_region ?_
    refine wv rfl (r_assign rfl) ?_
    refine wl_nil ?_
    refine sq_n ?_
    refine wc_ret ?_
    refine sq_ret ?_
    refine fin_ret [(.int .i64 (-1))] ⟨rfl, trivial⟩ ?_
    exact ⟨-1, rfl, St.gives (O := []) hM, (by omega)⟩
  · skip
    have hc1 := of_decide_eq_false hc1
    refine wc_skip ?_
    refine sq_n ?_
    refine wc_seq ?_
    refine wc_region ?_
    refine wv rfl (r_move rfl) ?_
    refine wv rfl (r_assign rfl) ?_
    refine wl_nil ?_
    refine sq_n ?_
    refine wc_ret ?_
    refine fin_ret [(.int .i64 (left - (a.length : Int)))] ⟨rfl, trivial⟩ ?_
    exact ⟨left - (a.length : Int), rfl, St.gives (O := []) hM, (by omega)⟩

theorem ct_laws_szPart (w : World) (a : PV) (left : Int) (a_a_0 : ArgX (oStar []).fp w [a.sv.v] (dFs 1 fI a.sl)) (hp0 : 0 ≤ left ∧ left ≤ 1048576) : Ret Try.prog 80 [.agg #[(.int .i64 a.kind), (.int .i64 a.n), a.sv.v], .int .i64 left] w (fun u w' => ∃ y : Int, u = .int .i64 y ∧ Gives (oStar []).fp w [] w' ∧ (y < 0 ∨ (0 ≤ y ∧ y ≤ left ∧ (a.sl.length : Int) ≤ left))) := by
  refine enter Try.func80 rfl Try.ntmps80 (by kernel_rfl) rfl ?_
  have hM := St.enter0 w
  have hM := hM.addE (cs := [a.sv.v]) (d := dFs 1 fI a.sl) a_a_0
  have hl_a_0 := Fs.le a_a_0
  refine wc_seq ?_
  refine wc_region ?_
  refine w_box rfl rfl hM ?_; intro b1 w2 hM
  refine wv rfl (r_assign rfl) ?_
  refine wl_nil ?_
  refine sq_n ?_
  refine wc_seq ?_
  refine wc_region ?_
  refine wv rfl (r_fld Try.underlying91 rfl rfl sz22 rfl) ?_
  refine wv rfl (r_ldB Try.underlying22 rfl rfl (hM.at' (.head _)) rfl) ?_
  refine wv rfl (r_move rfl) ?_
  refine w_call rfl rfl (ct_laws_szIntS w2 _ a.sl left (St.argx (L := []) hM (.head _)) (by first | omega | (simp; done) | (simp; omega))) ?_
  rintro _ w4 ⟨yx3, rfl, hG5, hf6⟩
  have hM := St.got (L := []) hM hG5
  simp only [List.cons_append, List.nil_append] at hM
  refine wv rfl (r_assign rfl) ?_
  refine wl_nil ?_
  refine sq_n ?_
  refine wc_seq ?_
  refine wc_seq ?_
  refine wc_region ?_
  refine wv rfl (r_move rfl) ?_
  refine wv rfl (r_lss rfl rfl) ?_
  refine wl_nil ?_
  refine sq_n ?_
  refine wc_cond rfl (fun hc7 => ?_) (fun hc7 => ?_)
  · skip
    have hc7 := of_decide_eq_true hc7
    refine wc_seq ?_
    refine wc_region ?_
    refine wv rfl (r_assign rfl) ?_
    refine wl_nil ?_
    refine sq_n ?_
    refine wc_ret ?_
    refine sq_ret ?_
    refine fin_ret [(.int .i64 (-1))] ⟨rfl, trivial⟩ ?_
    exact ⟨-1, rfl, St.gives (O := []) hM, (by omega)⟩
  · skip
    have hc7 := of_decide_eq_false hc7
    refine wc_skip ?_
    refine sq_n ?_
    refine wc_seq ?_
    refine wc_region ?_
    refine wv rfl (r_move rfl) ?_
    refine wv rfl (r_assign rfl) ?_
    refine wl_nil ?_
    refine sq_n ?_
    refine wc_ret ?_
    refine fin_ret [(.int .i64 yx3)] ⟨rfl, trivial⟩ ?_
    exact ⟨yx3, rfl, St.gives (O := []) hM, (by omega)⟩

theorem ct_laws_szPartS (w : World) (v_a : Sv) (a : List PV) (left : Int) (a_a : ArgX (oStar []).fp w [v_a.v] (dDeep 3 fP iP a)) (hp0 : 0 ≤ left ∧ left ≤ 1048576) : Ret Try.prog 29 [v_a.v, .int .i64 left] w (fun u w' => ∃ y : Int, u = .int .i64 y ∧ Gives (oStar []).fp w [] w' ∧ (y < 0 ∨ (0 ≤ y ∧ y ≤ left ∧ (a.length : Int) ≤ left ∧ ∀ p ∈ a, (p.sl.length : Int) ≤ left))) := by
  refine enter Try.func29 rfl Try.ntmps29 (by kernel_rfl) rfl ?_
  have hM := St.enter0 w
  have hM := hM.addE (cs := [v_a.v]) (d := dDeep 3 fP iP a) a_a
  have hl_a := Fs.le (Deep.fl a_a)
  refine wc_seq ?_
  refine wc_region ?_
  refine wv rfl (r_assign rfl) ?_
  refine wl_nil ?_
  refine sq_n ?_
  refine wc_seq ?_
  refine wc_region ?_
  refine wv rfl (r_move rfl) ?_
  refine wv rfl (r_move rfl) ?_
  refine wv rfl (r_lenF Try.underlying38 rfl (Deep.fl (hM.arg (.head _)))) ?_
  refine wv rfl (r_sub rfl rfl ⟨by omega, by omega⟩) ?_
  refine wv rfl (r_assign rfl) ?_
  refine wl_nil ?_
  refine sq_n ?_
  refine wc_seq ?_
  refine wc_seq ?_
  refine wc_region ?_
  refine wv rfl (r_move rfl) ?_
  refine wv rfl (r_lss rfl rfl) ?_
  refine wl_nil ?_
  refine sq_n ?_
  refine wc_cond rfl (fun hc1 => ?_) (fun hc1 => ?_)
  · skip
    have hc1 := of_decide_eq_true hc1
    refine wc_seq ?_
    refine wc_region ?_
    refine wv rfl (r_assign rfl) ?_
    refine wl_nil ?_
    refine sq_n ?_
    refine wc_ret ?_
    refine sq_ret ?_
    refine fin_ret [(.int .i64 (-1))] ⟨rfl, trivial⟩ ?_
    exact ⟨-1, rfl, St.gives (O := []) hM, (by omega)⟩
  · skip
    have hc1 := of_decide_eq_false hc1
    refine wc_skip ?_
    refine sq_n ?_
    refine wc_seq ?_
    refine wc_seq ?_
    refine wc_region ?_
    refine wv rfl (r_assign rfl) ?_
    refine wl_nil ?_
    refine sq_n ?_
    refine wc_block ?_
    refine wc_loop2 (fun (k : Nat) (y : Int) => [(0, v_a.v), (1, (.int .i64 y)), (5, (.int .i64 (k : Int)))]) (fun (k : Nat) (y : Int) w' => St ⟨w, (oStar []).fp⟩ [] [([v_a.v], dDeep 3 fP iP a)] w' ∧ (k ≤ a.length) ∧ (0 ≤ y ∧ y ≤ left) ∧ ((∀ p ∈ a.take k, (p.sl.length : Int) ≤ left))) (fun (k : Nat) (y : Int) => a.length - k) 0 (left - (a.length : Int)) ⟨rfl, rfl, rfl, trivial⟩ ⟨hM, (by omega), (by omega), (by simp)⟩ ?_
    rintro k y w2 ⟨hM, hf0_0, hf0_1, hf0_2⟩
    refine wc_seq ?_
    refine wc_seq ?_
    refine wc_region ?_
    refine wv rfl (r_move rfl) ?_
    refine wv rfl (r_move rfl) ?_
    refine wv rfl (r_lenF Try.underlying38 rfl (Deep.fl (hM.arg (.head _)))) ?_
    refine wv rfl (r_lss rfl rfl) ?_
    refine wl_nil ?_
    refine sq_n ?_
    refine wc_cond rfl (fun hc3 => ?_) (fun hc3 => ?_)
    · skip
      have hc3 := of_decide_eq_true hc3
      refine wc_skip ?_
      refine sq_n ?_
      refine wc_seq ?_
      refine wc_block ?_
      refine wc_seq ?_
      refine wc_region ?_
      refine wv rfl (r_move rfl) ?_
      refine wv rfl (r_move rfl) ?_
      refine wv rfl (r_ixF Try.underlying38 sz91 rfl rfl (Deep.fl (hM.arg (.head _))) ⟨by omega, by omega⟩) ?_
      have hM := hM.more (Deep.elem (hM.see (.head _)) (i := k) pv0 (by omega) (r := ([(a.getD k pv0).sv.v], dFs 1 fI ((a.getD k pv0).sl))) (.head _))
      refine wv rfl (r_ldFS (i := k) pv0 Try.underlying91 sz91 (fun _ => rfl) rfl (Deep.fl (hM.arg (.tail _ (.head _)))) (by omega)) ?_
      refine wv rfl (r_move rfl) ?_
      refine w_call rfl rfl (ct_laws_szPart w2 (a.getD k pv0 : PV) y (St.argx (L := []) hM (.head _)) (by first | omega | (simp; done) | (simp; omega))) ?_
      rintro _ w5 ⟨yx4, rfl, hG6, hf7⟩
      have hM := St.got (L := []) hM hG6
      simp only [List.cons_append, List.nil_append] at hM
      refine wv rfl (r_assign rfl) ?_
      refine wl_nil ?_
      refine sq_n ?_
      refine wc_seq ?_
      refine wc_region ?_
      refine wv rfl (r_move rfl) ?_
      refine wv rfl (r_lss rfl rfl) ?_
      refine wl_nil ?_
      refine sq_n ?_
      refine wc_cond rfl (fun hc8 => ?_) (fun hc8 => ?_)
      · skip
        have hc8 := of_decide_eq_true hc8
        refine wc_seq ?_
        refine wc_region ?_
        refine wv rfl (r_assign rfl) ?_
        refine wl_nil ?_
        refine sq_n ?_
        refine wc_ret ?_
        refine bk_ret ?_
        refine sq_ret ?_
        refine lp2_ret ?_
        refine bk_ret ?_
        refine sq_ret ?_
        refine fin_ret [(.int .i64 (-1))] ⟨rfl, trivial⟩ ?_
        exact ⟨-1, rfl, St.gives (O := []) hM, (by omega)⟩
      · skip
        have hc8 := of_decide_eq_false hc8
        refine wc_skip ?_
        refine bk_n ?_
        refine sq_n ?_
        refine wc_region ?_
        refine wv rfl (r_move rfl) ?_
        refine wv rfl (r_add rfl rfl ⟨by omega, by omega⟩) ?_
        refine wv rfl (r_assign rfl) ?_
        refine wl_nil ?_
        have hM := hM.lessR
        exact lp_end2 (k + 1) yx4 (by omega) ⟨rfl, rfl, rfl, trivial⟩ ⟨hM, (by omega), (by omega), (all_step pv0 (by omega) hf0_2 (by omega))⟩
    · skip
      have hc3 := of_decide_eq_false hc3
      refine wc_exit ?_
      refine sq_exit ?_
      refine lp2_exit ?_
      refine bk_here ?_
      refine sq_n ?_
      refine wc_seq ?_
      refine wc_region ?_
      refine wv rfl (r_move rfl) ?_
      refine wv rfl (r_assign rfl) ?_
      refine wl_nil ?_
      refine sq_n ?_
      refine wc_ret ?_
      refine fin_ret [(.int .i64 y)] ⟨rfl, trivial⟩ ?_
      exact ⟨y, rfl, St.gives (O := []) hM, (.inr ⟨by omega, by omega, by omega, all_full (by omega) hf0_2⟩)⟩

theorem ct_laws_toPart (w : World) (a : PV) (a_a_0 : ArgX (oStar []).fp w [a.sv.v] (dFs 1 fI a.sl)) (hp0 : (a.sl.length : Int) ≤ 1048576) : Ret Try.prog 83 [.agg #[(.int .i64 a.kind), (.int .i64 a.n), a.sv.v]] w (fun u w' => ∃ y : PV, u = .agg #[(.int .i64 y.kind), (.int .i64 y.n), y.sv.v] ∧ Gives (oStar []).fp w [oF y.sv.v 3 1 fI y.sl] w' ∧ (y.a = a.a)) := by
  refine enter Try.func83 rfl Try.ntmps83 (by kernel_rfl) rfl ?_
  have hM := St.enter0 w
  have hM := hM.addE (cs := [a.sv.v]) (d := dFs 1 fI a.sl) a_a_0
  have hl_a_0 := Fs.le a_a_0
  refine wc_seq ?_
  refine wc_region ?_
  refine w_box rfl rfl hM ?_; intro b1 w2 hM
  refine w_alloc rfl sz83 hM ?_; intro b3 w4 hM
  refine wl_nil ?_
  refine sq_n ?_
  refine wc_seq ?_
  refine wc_region ?_
  refine w_alloc rfl sz83 hM ?_; intro b5 w6 hM
  refine wl_nil ?_
  refine sq_n ?_
  refine wc_seq ?_
  refine wc_region ?_
  refine wv rfl (r_fld Try.underlying91 rfl rfl sz3 rfl) ?_
  refine wv rfl (r_ldB Try.underlying3 rfl rfl (hM.at' (.tail _ (.tail _ (.head _)))) rfl) ?_
  refine wv rfl (r_fld Try.underlying83 rfl rfl sz3 rfl) ?_
  refine w_st1 sz3 rfl rfl rfl rfl hM ?_; intro w7 hM
  refine wl_nil ?_
  refine sq_n ?_
  refine wc_seq ?_
  refine wc_region ?_
  refine wv rfl (r_fld Try.underlying91 rfl rfl sz3 rfl) ?_
  refine wv rfl (r_ldB Try.underlying3 rfl rfl (hM.at' (.tail _ (.tail _ (.head _)))) rfl) ?_
  refine wv rfl (r_fld Try.underlying83 rfl rfl sz3 rfl) ?_
  refine w_st1 sz3 rfl rfl rfl rfl hM ?_; intro w8 hM
  refine wl_nil ?_
  refine sq_n ?_
  refine wc_seq ?_
  refine wc_region ?_
  refine wv rfl (r_fld Try.underlying91 rfl rfl sz22 rfl) ?_
  refine wv rfl (r_ldB Try.underlying22 rfl rfl (hM.at' (.tail _ (.tail _ (.head _)))) rfl) ?_
  refine w_call rfl rfl (ct_laws_toIntS _ _ a.sl (hM.arg (.head _)) (by omega)) ?_
  rintro v10 w9 ⟨hR11, hov10⟩
  have hM := hM.gain hR11 hov10
  obtain ⟨v10, rfl⟩ := Of.sv hM.top
  refine wv rfl (r_fld Try.underlying83 rfl rfl sz22 rfl) ?_
  have hM := hM.swap
  refine w_st1 sz22 rfl rfl rfl rfl hM ?_; intro w12 hM
  refine wl_nil ?_
  refine sq_n ?_
  refine wc_seq ?_
  refine wc_region ?_
  refine wv rfl (r_ldBS Try.underlying83 sz83 rfl (cs := [(.int .i64 a.kind), (.int .i64 a.n), v10.v]) rfl (hM.at' (.head _))) ?_
  have hM := hM.roll
  refine w_stB sz83 rfl rfl rfl hM rfl rfl ?_; intro w13 hM
  refine wl_nil ?_
  refine sq_n ?_
  refine wc_ret ?_
  have hM := hM.roll
  refine fin_ret [(.agg #[(.int .i64 a.kind), (.int .i64 a.n), v10.v])] ⟨rv_box Try.underlying83 sz83 (cs := [(.int .i64 a.kind), (.int .i64 a.n), v10.v]) rfl rfl (hM.at' (.tail _ (.head _))), trivial⟩ ?_
  exact ⟨⟨a.kind, a.n, v10, a.sl⟩, rfl, St.gives (O := [oF v10.v 3 1 fI a.sl]) hM, (rfl)⟩

theorem ct_laws_toPartS (w : World) (v_a : Sv) (a : List PV) (a_a : ArgX (oStar []).fp w [v_a.v] (dDeep 3 fP iP a)) (hp0 : (a.length : Int) ≤ 1048576) (hp1 : ∀ p ∈ a, (p.sl.length : Int) ≤ 1048576) : Ret Try.prog 31 [v_a.v] w (fun u w' => ∃ y : List PV, ∃ y0 : Sv, u = y0.v ∧ Gives (oStar []).fp w [oF y0.v 83 3 fP y, oBag oP y] w' ∧ (pa y = pa a)) := by
  refine enter Try.func31 rfl Try.ntmps31 (by kernel_rfl) rfl ?_
  have hM := St.enter0 w
  have hM := hM.addE (cs := [v_a.v]) (d := dDeep 3 fP iP a) a_a
  have hl_a := Fs.le (Deep.fl a_a)
  refine wc_seq ?_
  refine wc_region ?_
  refine wv rfl (r_assign rfl) ?_
  refine wl_nil ?_
  refine sq_n ?_
  refine wc_seq ?_
  refine wc_region ?_
  refine wv rfl (r_move rfl) ?_
  refine wv rfl (r_lenF Try.underlying38 rfl (Deep.fl (hM.arg (.head _)))) ?_
  refine w_makeF (f := fP) (k := a.length) pv0 rfl Try.underlying41 sz83 rfl rfl (by omega) (by omega) hM ?_; intro v2 w1 hM
  obtain ⟨v2, rfl⟩ := Of.sv hM.top
  have hM := hM.bagRep oP a.length zP
  refine wv rfl (r_assign rfl) ?_
  refine wl_nil ?_
  refine sq_n ?_
  refine wc_seq ?_
  refine wc_seq ?_
  refine wc_region ?_
  refine wv rfl (r_assign rfl) ?_
  refine wl_nil ?_
  refine sq_n ?_
  refine wc_block ?_
  refine wc_loop2 (fun (k : Nat) (L : List PV) => [(0, v_a.v), (3, v2.v), (4, (.int .i64 (k : Int)))]) (fun (k : Nat) (L : List PV) w' => St ⟨w, (oStar []).fp⟩ [oBag oP L, oF v2.v 83 3 fP L] [([v_a.v], dDeep 3 fP iP a)] w' ∧ (k ≤ a.length) ∧ (L.length = a.length) ∧ (pa (L.take k) = pa (a.take k))) (fun (k : Nat) (L : List PV) => a.length - k) 0 (List.replicate a.length pv0) ⟨rfl, rfl, rfl, trivial⟩ ⟨hM, (by omega), (by simp), (rfl)⟩ ?_
  rintro k L w6 ⟨hM, hf0_0, hf0_1, hf0_2⟩
  refine wc_seq ?_
  refine wc_seq ?_
  refine wc_region ?_
  refine wv rfl (r_move rfl) ?_
  refine wv rfl (r_move rfl) ?_
  refine wv rfl (r_lenF Try.underlying38 rfl (Deep.fl (hM.arg (.head _)))) ?_
  refine wv rfl (r_lss rfl rfl) ?_
  refine wl_nil ?_
  refine sq_n ?_
  refine wc_cond rfl (fun hc7 => ?_) (fun hc7 => ?_)
  · skip
    have hc7 := of_decide_eq_true hc7
    refine wc_skip ?_
    refine sq_n ?_
    refine wc_seq ?_
    refine wc_block ?_
    refine wc_region ?_
    refine wv rfl (r_move rfl) ?_
    refine wv rfl (r_move rfl) ?_
    refine wv rfl (r_move rfl) ?_
    refine wv rfl (r_move rfl) ?_
    refine wv rfl (r_ixF Try.underlying38 sz91 rfl rfl (Deep.fl (hM.arg (.head _))) ⟨by omega, by omega⟩) ?_
    have hM := hM.more (Deep.elem (hM.see (.head _)) (i := k) pv0 (by omega) (r := ([(a.getD k pv0).sv.v], dFs 1 fI ((a.getD k pv0).sl))) (.head _))
    refine wv rfl (r_ldFS (i := k) pv0 Try.underlying91 sz91 (fun _ => rfl) rfl (Deep.fl (hM.arg (.tail _ (.head _)))) (by omega)) ?_
    refine w_call rfl rfl (ct_laws_toPart w6 (a.getD k pv0 : PV) (St.argx (L := []) hM (.head _)) (hp1 _ (mem_getD (by omega)))) ?_
    rintro _ w9 ⟨yx8, rfl, hG10, hf11⟩
    have hM := St.got (L := []) hM hG10
    simp only [List.cons_append, List.nil_append] at hM
    have hya := hf11
    refine wv rfl (r_ixO Try.underlying41 sz83 rfl rfl (hM.at' (.tail _ (.tail _ (.head _)))) ⟨by omega, by omega⟩) ?_
    have hM := hM.roll
    refine w_stFS (f := fP) (L := L) (i := k) yx8 sz83 (fun _ => rfl) rfl rfl (by omega) rfl rfl hM ?_; intro w12 hM
    have hM := hM.roll
    have hM := hM.roll
    have hM := St.bagSet (own := oP) (L := L) (i := k) (y := (yx8 : PV)) pv0 hM (by omega)
    refine wl_nil ?_
    refine bk_n ?_
    refine sq_n ?_
    refine wc_region ?_
    refine wv rfl (r_move rfl) ?_
    refine wv rfl (r_add rfl rfl ⟨by omega, by omega⟩) ?_
    refine wv rfl (r_assign rfl) ?_
    refine wl_nil ?_
    have hM := hM.swap
    have hM := hM.swap
    have hM := hM.lessR
    exact lp_end2 (k + 1) (L.set k yx8) (by omega) ⟨rfl, rfl, rfl, trivial⟩ ⟨hM, (by omega), (by rw [List.length_set]; omega), (pa_set_step hf0_1 (by omega) hf0_2 hya)⟩
  · skip
    have hc7 := of_decide_eq_false hc7
    refine wc_exit ?_
    refine sq_exit ?_
    refine lp2_exit ?_
    refine bk_here ?_
    refine sq_n ?_
    refine wc_seq ?_
    refine wc_region ?_
    refine wv rfl (r_move rfl) ?_
    refine wv rfl (r_assign rfl) ?_
    refine wl_nil ?_
    refine sq_n ?_
    refine wc_ret ?_
    have hM := hM.swap
    refine fin_ret [v2.v] ⟨rfl, trivial⟩ ?_
    exact ⟨L, v2, rfl, St.gives (O := [oF v2.v 83 3 fP L, oBag oP L]) hM, (by rw [← pa_full (k := k) (o := L) (by omega), hf0_2, pa_full (by omega)])⟩

theorem ct_laws_eqPart (w : World) (a : PV) (a_a_0 : Arg w [a.sv.v] (dFs 1 fI a.sl)) (b : PV) (a_b_0 : Arg w [b.sv.v] (dFs 1 fI b.sl)) : Ret Try.prog 86 [.agg #[(.int .i64 a.kind), (.int .i64 a.n), a.sv.v], .agg #[(.int .i64 b.kind), (.int .i64 b.n), b.sv.v]] w (fun u w' => u = .bool (decide (a.a = b.a)) ∧ Rel w w') := by
  refine enter Try.func86 rfl Try.ntmps86 (by kernel_rfl) rfl ?_
  have hM := St.init w
  have hM := hM.addA a_a_0
  have hl_a_0 := Fs.le a_a_0
  have hM := hM.addA a_b_0
  have hl_b_0 := Fs.le a_b_0
  refine wc_seq ?_
  refine wc_region ?_
  refine w_box rfl rfl hM ?_; intro b1 w2 hM
  refine w_box rfl rfl hM ?_; intro b3 w4 hM
  refine wv rfl (r_assign rfl) ?_
  refine wl_nil ?_
  refine sq_n ?_
  refine wc_seq ?_
  refine wc_seq ?_
  refine wc_region ?_
  refine wv rfl (r_fld Try.underlying83 rfl rfl sz3 rfl) ?_
  refine wv rfl (r_ldB Try.underlying3 rfl rfl (hM.at' (.tail _ (.head _))) rfl) ?_
  refine wv rfl (r_fld Try.underlying83 rfl rfl sz3 rfl) ?_
  refine wv rfl (r_ldB Try.underlying3 rfl rfl (hM.at' (.head _)) rfl) ?_
  refine wv rfl (r_neq rfl rfl) ?_
  refine wl_nil ?_
  refine sq_n ?_
  refine wc_cond rfl (fun hc5 => ?_) (fun hc5 => ?_)
  · skip
    have hc5 := bnot_t hc5
    have hc5 := of_decide_eq_false hc5
    refine wc_seq ?_
    refine wc_region ?_
    refine wv rfl (r_assign rfl) ?_
    refine wl_nil ?_
    refine sq_n ?_
    refine wc_ret ?_
    refine sq_ret ?_
    refine fin_ret [(.bool false)] ⟨rfl, trivial⟩ ?_
    exact ⟨vbool (ptEq_1 (by assumption)), hM.rel⟩
  · skip
    have hc5 := bnot_f hc5
    have hc5 := of_decide_eq_true hc5
    refine wc_skip ?_
    refine sq_n ?_
    refine wc_seq ?_
    refine wc_seq ?_
    refine wc_region ?_
    refine wv rfl (r_fld Try.underlying83 rfl rfl sz3 rfl) ?_
    refine wv rfl (r_ldB Try.underlying3 rfl rfl (hM.at' (.tail _ (.head _))) rfl) ?_
    refine wv rfl (r_fld Try.underlying83 rfl rfl sz3 rfl) ?_
    refine wv rfl (r_ldB Try.underlying3 rfl rfl (hM.at' (.head _)) rfl) ?_
    refine wv rfl (r_neq rfl rfl) ?_
    refine wl_nil ?_
    refine sq_n ?_
    refine wc_cond rfl (fun hc6 => ?_) (fun hc6 => ?_)
    · skip
      have hc6 := bnot_t hc6
      have hc6 := of_decide_eq_false hc6
      refine wc_seq ?_
      refine wc_region ?_
      refine wv rfl (r_assign rfl) ?_
      refine wl_nil ?_
      refine sq_n ?_
      refine wc_ret ?_
      refine sq_ret ?_
      refine fin_ret [(.bool false)] ⟨rfl, trivial⟩ ?_
      exact ⟨vbool (ptEq_2 (by assumption)), hM.rel⟩
    · skip
      have hc6 := bnot_f hc6
      have hc6 := of_decide_eq_true hc6
      refine wc_skip ?_
      refine sq_n ?_
      refine wc_seq ?_
      refine wc_seq ?_
      refine wc_region ?_
      refine wv rfl (r_fld Try.underlying83 rfl rfl sz22 rfl) ?_
      refine wv rfl (r_ldB Try.underlying22 rfl rfl (hM.at' (.tail _ (.head _))) rfl) ?_
      refine wv rfl (r_fld Try.underlying83 rfl rfl sz22 rfl) ?_
      refine wv rfl (r_ldB Try.underlying22 rfl rfl (hM.at' (.head _)) rfl) ?_
      refine w_call rfl rfl (ct_laws_eqIntS _ _ a.sl (hM.arg (.tail _ (.head _))) _ b.sl (hM.arg (.head _))) ?_
      rintro _ w7 ⟨rfl, hR8⟩
      have hM := hM.call hR8
      refine wv rfl (r_not rfl) ?_
      refine wl_nil ?_
      refine sq_n ?_
      refine wc_cond rfl (fun hc9 => ?_) (fun hc9 => ?_)
      · skip
        have hc9 := bnot_t hc9
        have hc9 := of_decide_eq_false hc9
        refine wc_seq ?_
        refine wc_region ?_
        refine wv rfl (r_assign rfl) ?_
        refine wl_nil ?_
        refine sq_n ?_
        refine wc_ret ?_
        refine sq_ret ?_
        refine fin_ret [(.bool false)] ⟨rfl, trivial⟩ ?_
        exact ⟨vbool (ptEq_3 (by assumption)), hM.rel⟩
      · skip
        have hc9 := bnot_f hc9
        have hc9 := of_decide_eq_true hc9
        refine wc_skip ?_
        refine sq_n ?_
        refine wc_seq ?_
        refine wc_region ?_
        refine wv rfl (r_assign rfl) ?_
        refine wl_nil ?_
        refine sq_n ?_
        refine wc_ret ?_
        refine fin_ret [(.bool true)] ⟨rfl, trivial⟩ ?_
        exact ⟨vbool (ptEq_y (by assumption) (by assumption) (by assumption)), hM.rel⟩

theorem ct_laws_eqPartS (w : World) (v_a : Value) (a : List PV) (a_a : Arg w [v_a] (dDeep 3 fP iP a)) (v_b : Value) (b : List PV) (a_b : Arg w [v_b] (dDeep 3 fP iP b)) : Ret Try.prog 33 [v_a, v_b] w (fun u w' => u = .bool (decide (pa a = pa b)) ∧ Rel w w') := by
  refine enter Try.func33 rfl Try.ntmps33 (by kernel_rfl) rfl ?_
  have hM := St.init w
  have hM := hM.addA a_a
  have hl_a := Fs.le (Deep.fl a_a)
  have hM := hM.addA a_b
  have hl_b := Fs.le (Deep.fl a_b)
  refine wc_seq ?_
  refine wc_region ?_
  refine wv rfl (r_assign rfl) ?_
  refine wl_nil ?_
  refine sq_n ?_
  refine wc_seq ?_
  refine wc_seq ?_
  refine wc_region ?_
  refine wv rfl (r_move rfl) ?_
  refine wv rfl (r_lenF Try.underlying41 rfl (Deep.fl (hM.arg (.tail _ (.head _))))) ?_
  refine wv rfl (r_move rfl) ?_
  refine wv rfl (r_lenF Try.underlying41 rfl (Deep.fl (hM.arg (.head _)))) ?_
  refine wv rfl (r_neq rfl rfl) ?_
  refine wl_nil ?_
  refine sq_n ?_
  refine wc_cond rfl (fun hc1 => ?_) (fun hc1 => ?_)
  · skip
    have hc1 := bnot_t hc1
    have hc1 := of_decide_eq_false hc1
    refine wc_seq ?_
    refine wc_region ?_
    refine wv rfl (r_assign rfl) ?_
    refine wl_nil ?_
    refine sq_n ?_
    refine wc_ret ?_
    refine sq_ret ?_
    refine fin_ret [(.bool false)] ⟨rfl, trivial⟩ ?_
    exact ⟨vbool (pa_ne_len (by assumption)), hM.rel⟩
  · skip
    have hc1 := bnot_f hc1
    have hc1 := of_decide_eq_true hc1
    refine wc_skip ?_
    refine sq_n ?_
    refine wc_seq ?_
    refine wc_seq ?_
    refine wc_region ?_
    refine wv rfl (r_assign rfl) ?_
    refine wl_nil ?_
    refine sq_n ?_
    refine wc_block ?_
    refine wc_loop1 (fun (k : Nat) => [(0, v_a), (1, v_b), (5, (.int .i64 (k : Int)))]) (fun (k : Nat) w' => St (b0 w) [] [([v_b], dDeep 3 fP iP b), ([v_a], dDeep 3 fP iP a)] w' ∧ (k ≤ a.length) ∧ (pa (a.take k) = pa (b.take k))) (fun (k : Nat) => a.length - k) 0 ⟨rfl, rfl, rfl, trivial⟩ ⟨hM, (by omega), (rfl)⟩ ?_
    rintro k w2 ⟨hM, hf0_0, hf0_1⟩
    refine wc_seq ?_
    refine wc_seq ?_
    refine wc_region ?_
    refine wv rfl (r_move rfl) ?_
    refine wv rfl (r_move rfl) ?_
    refine wv rfl (r_lenF Try.underlying41 rfl (Deep.fl (hM.arg (.tail _ (.head _))))) ?_
    refine wv rfl (r_lss rfl rfl) ?_
    refine wl_nil ?_
    refine sq_n ?_
    refine wc_cond rfl (fun hc3 => ?_) (fun hc3 => ?_)
    · skip
      have hc3 := of_decide_eq_true hc3
      refine wc_skip ?_
      refine sq_n ?_
      refine wc_seq ?_
      refine wc_block ?_
      refine wc_seq ?_
      refine wc_draw [(0, false), (1, false), (2, false), (3, false), (4, false), (5, false), (6, false), (7, false), (8, false), (9, false)] Try_mixed (by kernel_rfl) rfl (by kernel_rfl) rfl ?_
      refine ov rfl (fun w' h' => r_move rfl) ?_
      refine ov rfl (fun w' h' => r_move rfl) ?_
      refine ov rfl (fun w' h' => r_ixF Try.underlying41 sz83 rfl rfl (Deep.fl ((hM.call h').arg (.tail _ (.head _)))) ⟨by omega, by omega⟩) ?_
      have hM := hM.more (Deep.elem (hM.see (.tail _ (.head _))) (i := k) pv0 (by omega) (r := ([(a.getD k pv0).sv.v], dFs 1 fI ((a.getD k pv0).sl))) (.head _))
      refine ov rfl (fun w' h' => r_ldFS (i := k) pv0 Try.underlying83 sz83 (fun _ => rfl) rfl (Deep.fl ((hM.call h').arg (.tail _ (.tail _ (.head _))))) (by omega)) ?_
      refine ov rfl (fun w' h' => r_move rfl) ?_
      refine ov rfl (fun w' h' => r_move rfl) ?_
      refine ov rfl (fun w' h' => r_ixF Try.underlying41 sz83 rfl rfl (Deep.fl ((hM.call h').arg (.tail _ (.head _)))) ⟨by omega, by omega⟩) ?_
      have hM := hM.more (Deep.elem (hM.see (.tail _ (.head _))) (i := k) pv0 (by omega) (r := ([(b.getD k pv0).sv.v], dFs 1 fI ((b.getD k pv0).sl))) (.head _))
      refine ov rfl (fun w' h' => r_ldFS (i := k) pv0 Try.underlying83 sz83 (fun _ => rfl) rfl (Deep.fl ((hM.call h').arg (.tail _ (.tail _ (.head _))))) (by omega)) ?_
      refine oc rfl rfl (fun w' h' => ct_laws_eqPart _ (a.getD k pv0 : PV) ((hM.call h').arg (.tail _ (.head _))) (b.getD k pv0 : PV) ((hM.call h').arg (.head _))) ?_
      refine ov rfl (fun w' h' => r_not rfl) ?_
      refine o_nil fun w4 hw5 => ?_
      have hM := hM.call hw5
      refine sq_n ?_
      refine wc_cond rfl (fun hc6 => ?_) (fun hc6 => ?_)
      · skip
        have hc6 := bnot_t hc6
        have hc6 := of_decide_eq_false hc6
        refine wc_seq ?_
        refine wc_region ?_
        refine wv rfl (r_assign rfl) ?_
        refine wl_nil ?_
        refine sq_n ?_
        refine wc_ret ?_
        refine bk_ret ?_
        refine sq_ret ?_
        refine lp1_ret ?_
        refine bk_ret ?_
        refine sq_ret ?_
        refine fin_ret [(.bool false)] ⟨rfl, trivial⟩ ?_
        exact ⟨vbool (pa_ne_get (k := k) (by assumption)), hM.rel⟩
      · skip
        have hc6 := bnot_f hc6
        have hc6 := of_decide_eq_true hc6
        refine wc_skip ?_
        refine bk_n ?_
        refine sq_n ?_
        refine wc_region ?_
        refine wv rfl (r_move rfl) ?_
        refine wv rfl (r_add rfl rfl ⟨by omega, by omega⟩) ?_
        refine wv rfl (r_assign rfl) ?_
        refine wl_nil ?_
        have hM := hM.lessR
        have hM := hM.lessR
        exact lp_end1 (k + 1) (by omega) ⟨rfl, rfl, rfl, trivial⟩ ⟨hM, (by omega), (pa_eq_step (by omega) (by omega) hf0_1 (by assumption))⟩
    · skip
      have hc3 := of_decide_eq_false hc3
      refine wc_exit ?_
      refine sq_exit ?_
      refine lp1_exit ?_
      refine bk_here ?_
      refine sq_n ?_
      refine wc_seq ?_
      refine wc_region ?_
      refine wv rfl (r_assign rfl) ?_
      refine wl_nil ?_
      refine sq_n ?_
      refine wc_ret ?_
      refine fin_ret [(.bool true)] ⟨rfl, trivial⟩ ?_
      exact ⟨vbool (pa_eq_end (k := k) (by omega) (by omega) hf0_1), hM.rel⟩

theorem ct_laws_FnExactSparse (w : World) (v_aO : Sv) (aO : List PV) (a_aO : ArgX (oStar []).fp w [v_aO.v] (dDeep 3 fP iP aO)) : Ret Try.prog 7 [v_aO.v] w (fun u w' => u = .bool true ∧ Gives (oStar []).fp w [] w') := by
  refine enter Try.func7 rfl Try.ntmps7 (by kernel_rfl) rfl ?_
  have hM := St.enter0 w
  have hM := hM.addE (cs := [v_aO.v]) (d := dDeep 3 fP iP aO) a_aO
  have hl_aO := Fs.le (Deep.fl a_aO)
  refine wc_seq ?_
  refine wc_region ?_
  refine wv rfl (r_assign rfl) ?_
  refine wl_nil ?_
  refine sq_n ?_
  refine wc_seq ?_
  refine wc_region ?_
  refine wv rfl (r_assign rfl) ?_
  refine wl_nil ?_
  refine sq_n ?_
  refine wc_seq ?_
  refine wc_region ?_
  refine wv rfl (r_move rfl) ?_
  refine wv rfl (r_move rfl) ?_
  refine w_call rfl rfl (ct_laws_szPartS w _ aO (1048576 : Int) (St.argx (L := []) hM (.head _)) (by first | omega | (simp; done) | (simp; omega))) ?_
  rintro _ w2 ⟨yx1, rfl, hG3, hf4⟩
  have hM := St.got (L := []) hM hG3
  simp only [List.cons_append, List.nil_append] at hM
  have hszf := hf4
  refine wv rfl (r_assign rfl) ?_
  refine wl_nil ?_
  refine sq_n ?_
  refine wc_seq ?_
  refine wc_seq ?_
  refine wc_region ?_
  refine wv rfl (r_move rfl) ?_
  refine wv rfl (r_lss rfl rfl) ?_
  refine wl_nil ?_
  refine sq_n ?_
  refine wc_cond rfl (fun hc5 => ?_) (fun hc5 => ?_)
  · skip
    have hc5 := of_decide_eq_true hc5
    refine wc_seq ?_
    refine wc_region ?_
    refine wv rfl (r_assign rfl) ?_
    refine wl_nil ?_
    refine sq_n ?_
    refine wc_ret ?_
    refine sq_ret ?_
    refine fin_ret [(.bool true)] ⟨rfl, trivial⟩ ?_
    exact ⟨rfl, St.gives (O := []) hM⟩
  · skip
    have hc5 := of_decide_eq_false hc5
    have hszr := hszf.resolve_left hc5
    refine wc_skip ?_
    refine sq_n ?_
    refine wc_seq ?_
    refine wc_region ?_
    refine wv rfl (r_move rfl) ?_
    refine w_call rfl rfl (ct_laws_toPartS w2 _ aO (St.argx (L := []) hM (.head _)) (by omega) (hszr.2.2.2)) ?_
    rintro _ w8 ⟨yx6, y0x7, rfl, hG9, hf10⟩
    have hM := St.got (L := []) hM hG9
    simp only [List.cons_append, List.nil_append] at hM
    refine w_call rfl rfl (ct_spec_Sparse _ _ yx6 (ArgX.arg (St.argD (M := []) hM (.head _) (.tail _ (.head _)) (fun _ => rfl) hroP))) ?_
    rintro _ w11 ⟨rfl, hR12⟩
    have hM := hM.call hR12
    refine wv rfl (r_assign rfl) ?_
    refine wl_nil ?_
    refine sq_n ?_
    refine wc_seq ?_
    refine wc_region ?_
    refine wv rfl (r_move rfl) ?_
    refine w_call rfl rfl (ct_laws_toPartS w11 _ aO (St.argx (L := []) hM (.head _)) (by omega) (hszr.2.2.2)) ?_
    rintro _ w15 ⟨yx13, y0x14, rfl, hG16, hf17⟩
    have hM := St.got (L := []) hM hG16
    simp only [List.cons_append, List.nil_append] at hM
    refine wv rfl (r_assign rfl) ?_
    refine wl_nil ?_
    refine sq_n ?_
    refine wc_seq ?_
    refine wc_region ?_
    refine wv rfl (r_move rfl) ?_
    refine w_call rfl rfl (ct_impl_Sparse _ _ yx13 (ArgX.arg (St.argD (M := []) hM (.head _) (.tail _ (.head _)) (fun _ => rfl) hroP))) ?_
    rintro _ w18 ⟨rfl, hR19⟩
    have hM := hM.call hR19
    refine wv rfl (r_assign rfl) ?_
    refine wl_nil ?_
    refine sq_n ?_
    refine wc_seq ?_
    refine wc_seq ?_
    refine wc_region ?_
    refine wv rfl (r_move rfl) ?_
    refine wv rfl (r_move rfl) ?_
    refine wv rfl (r_neq rfl rfl) ?_
    refine wl_nil ?_
    refine sq_n ?_
    refine wc_cond rfl (fun hc20 => ?_) (fun hc20 => ?_)
    · skip
      have hc20 := bnot_t hc20
      have hc20 := of_decide_eq_false hc20
      exact absurd hc20 (by first | omega | (intro hn; exact hn rfl) | (simp; done) | (simp; omega) | (intro hn; exact hn (by simp only [hf10, hf17])) | (simp [hf10, hf17]; done))
    · skip
      have hc20 := bnot_f hc20
      have hc20 := of_decide_eq_true hc20
      refine wc_skip ?_
      refine sq_n ?_
      refine wc_seq ?_
      refine wc_seq ?_
      refine wc_region ?_
      refine wv rfl (r_move rfl) ?_
      refine wv rfl (r_move rfl) ?_
      refine w_call rfl rfl (ct_laws_toPartS w18 _ aO (St.argx (L := []) hM (.head _)) (by omega) (hszr.2.2.2)) ?_
      rintro _ w23 ⟨yx21, y0x22, rfl, hG24, hf25⟩
      have hM := St.got (L := []) hM hG24
      simp only [List.cons_append, List.nil_append] at hM
      refine w_call rfl rfl (ct_laws_eqPartS _ _ yx13 (ArgX.arg (St.argD (M := []) hM (.tail _ (.tail _ (.head _))) (.tail _ (.tail _ (.tail _ (.head _)))) (fun _ => rfl) hroP)) _ yx21 (ArgX.arg (St.argD (M := []) hM (.head _) (.tail _ (.head _)) (fun _ => rfl) hroP))) ?_
      rintro _ w26 ⟨rfl, hR27⟩
      have hM := hM.call hR27
      refine wv rfl (r_not rfl) ?_
      refine wl_nil ?_
      refine sq_n ?_
      refine wc_cond rfl (fun hc28 => ?_) (fun hc28 => ?_)
      · skip
        have hc28 := bnot_t hc28
        have hc28 := of_decide_eq_false hc28
        exact absurd hc28 (by first | omega | (intro hn; exact hn rfl) | (simp; done) | (simp; omega) | (intro hn; exact hn (by simp only [hf10, hf17, hf25])) | (simp [hf10, hf17, hf25]; done))
      · skip
        have hc28 := bnot_f hc28
        have hc28 := of_decide_eq_true hc28
        refine wc_skip ?_
        refine sq_n ?_
        refine wc_seq ?_
        refine wc_region ?_
        refine wv rfl (r_assign rfl) ?_
        refine wl_nil ?_
        refine sq_n ?_
        refine wc_ret ?_
        refine fin_ret [(.bool true)] ⟨rfl, trivial⟩ ?_
        exact ⟨rfl, St.gives (O := []) hM⟩

end Go.Proofs.Ythnnhoabdhhkaaa
