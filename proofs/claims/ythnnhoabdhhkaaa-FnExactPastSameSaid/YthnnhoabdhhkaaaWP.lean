/- Walks of functions of this program (printed by a program of ours, by the rules of the layer). No condition. -/
import Derived.Test.YthnnhoabdhhkaaaWA
namespace Go.Proofs.Ythnnhoabdhhkaaa
open Go.RowKit

theorem ct_impl_PartOk (w : World) (p : PV) (a_p_0 : Arg w [p.sv.v] (dFs 1 fI p.sl)) : Ret Try.prog 158 [.agg #[(.int .i64 p.kind), (.int .i64 p.n), p.sv.v]] w (fun u w' => u = .bool (partOk p.a) ∧ Rel w w') := by
  refine enter Try.func158 rfl Try.ntmps158 (by kernel_rfl) rfl ?_
  have hM := St.init w
  have hM := hM.addA a_p_0
  have hl_p_0 := Fs.le a_p_0
  refine wc_seq ?_
  refine wc_region ?_
  refine w_box rfl rfl hM ?_; intro b1 w2 hM
  refine wv rfl (r_assign rfl) ?_
  refine wl_nil ?_
  refine sq_n ?_
  refine wc_seq ?_
  refine wc_seq ?_
  refine wc_region ?_
  refine wv rfl (r_fld Try.underlying83 rfl rfl sz3 rfl) ?_
  refine wv rfl (r_ldB Try.underlying3 rfl rfl (hM.at' (.head _)) rfl) ?_
  refine wl_nil ?_
  refine sq_n ?_
  refine wc_block ?_
  refine wc_seq ?_
  refine wc_seq ?_
  refine wc_region ?_
  refine wv rfl (r_eql rfl rfl) ?_
  refine wv rfl (r_assign rfl) ?_
  refine wl_nil ?_
  refine sq_n ?_
  refine wc_cond rfl (fun hc3 => ?_) (fun hc3 => ?_)
  · skip
    have hc3b := hc3
    have hc3 := of_decide_eq_true hc3
    refine wc_skip ?_
    refine sq_n ?_
    refine wc_cond_t (bcongr hc3b) ?_
    refine wc_seq ?_
    refine wc_region ?_
    refine wv rfl (r_fld Try.underlying83 rfl rfl sz3 rfl) ?_
    refine wv rfl (r_ldB Try.underlying3 rfl rfl (hM.at' (.head _)) rfl) ?_
    refine w_call rfl rfl (ct_impl_within _ p.n (0 : Int) (200 : Int)) ?_
    rintro _ w4 ⟨rfl, hR5⟩
    have hM := hM.call hR5
    refine wv rfl (r_move rfl) ?_
    refine wl_mid 5 (fun _ : Unit => [(16, (.bool ((within p.n 0 200) && (decide ((p.sl.length : Int) = 0)))))]) (fun _ w' => St (b0 w) [oBox b1 #[(.int .i64 p.kind), (.int .i64 p.n), p.sv.v] 83] [([p.sv.v], dFs 1 fI p.sl)] w') ?_ ?_
    · rcases Bool.eq_false_or_eq_true (within p.n 0 200) with hg6 | hg6
      · skip
        refine gv rfl hg6 rfl (r_fld Try.underlying83 rfl rfl sz22 rfl) ?_
        refine gv rfl hg6 rfl (r_ldB Try.underlying22 rfl rfl (hM.at' (.head _)) rfl) ?_
        refine gv rfl hg6 rfl (r_lenF Try.underlying22 rfl (hM.arg (.head _))) ?_
        refine gv rfl hg6 rfl (r_eql rfl rfl) ?_
        refine wv rfl (p_t rfl hg6 rfl) ?_
        exact mid_nil () ⟨bcongr (and_t hg6), trivial⟩ hM
      · skip
        refine gs rfl (isB_no hg6) rfl ?_
        refine gs rfl (isB_no hg6) rfl ?_
        refine gs rfl (isB_no hg6) rfl ?_
        refine gs rfl (isB_no hg6) rfl ?_
        refine wv rfl (p_f rfl hg6 rfl) ?_
        exact mid_nil () ⟨bcongr (and_f hg6), trivial⟩ hM
    rintro _ w7 hM
    refine wv rfl (r_assign rfl) ?_
    refine wl_nil ?_
    refine sq_n ?_
    refine wc_ret ?_
    refine bk_ret ?_
    refine sq_ret ?_
    refine fin_ret [(.bool ((within p.n 0 200) && (decide ((p.sl.length : Int) = 0))))] ⟨rfl, trivial⟩ ?_
    exact ⟨vbool (by first | exact (partOk_1 (p := p.a) (by assumption)).symm | exact (partOk_3 (p := p.a) (by assumption)).symm | exact (partOk_2 (p := p.a) (by assumption)).symm | exact (partOk_2s (p := p.a) (by assumption)).symm | exact (partOk_no (p := p.a) (by assumption) (by assumption) (by assumption)).symm), hM.rel⟩
  · skip
    have hc3b := hc3
    have hc3 := of_decide_eq_false hc3
    refine wc_region ?_
    refine wv rfl (r_eql rfl rfl) ?_
    refine wv rfl (r_assign rfl) ?_
    refine wl_nil ?_
    refine sq_n ?_
    refine wc_cond rfl (fun hc8 => ?_) (fun hc8 => ?_)
    · skip
      have hc8b := hc8
      have hc8 := of_decide_eq_true hc8
      refine wc_seq ?_
      refine wc_region ?_
      refine wv rfl (r_fld Try.underlying83 rfl rfl sz3 rfl) ?_
      refine wv rfl (r_ldB Try.underlying3 rfl rfl (hM.at' (.head _)) rfl) ?_
      refine w_call rfl rfl (ct_impl_within _ p.n (0 : Int) (200 : Int)) ?_
      rintro _ w9 ⟨rfl, hR10⟩
      have hM := hM.call hR10
      refine wv rfl (r_move rfl) ?_
      refine wl_mid 5 (fun _ : Unit => [(16, (.bool ((within p.n 0 200) && (decide ((p.sl.length : Int) = 0)))))]) (fun _ w' => St (b0 w) [oBox b1 #[(.int .i64 p.kind), (.int .i64 p.n), p.sv.v] 83] [([p.sv.v], dFs 1 fI p.sl)] w') ?_ ?_
      · rcases Bool.eq_false_or_eq_true (within p.n 0 200) with hg11 | hg11
        · skip
          refine gv rfl hg11 rfl (r_fld Try.underlying83 rfl rfl sz22 rfl) ?_
          refine gv rfl hg11 rfl (r_ldB Try.underlying22 rfl rfl (hM.at' (.head _)) rfl) ?_
          refine gv rfl hg11 rfl (r_lenF Try.underlying22 rfl (hM.arg (.head _))) ?_
          refine gv rfl hg11 rfl (r_eql rfl rfl) ?_
          refine wv rfl (p_t rfl hg11 rfl) ?_
          exact mid_nil () ⟨bcongr (and_t hg11), trivial⟩ hM
        · skip
          refine gs rfl (isB_no hg11) rfl ?_
          refine gs rfl (isB_no hg11) rfl ?_
          refine gs rfl (isB_no hg11) rfl ?_
          refine gs rfl (isB_no hg11) rfl ?_
          refine wv rfl (p_f rfl hg11 rfl) ?_
          exact mid_nil () ⟨bcongr (and_f hg11), trivial⟩ hM
      rintro _ w12 hM
      refine wv rfl (r_assign rfl) ?_
      refine wl_nil ?_
      refine sq_n ?_
      refine wc_ret ?_
      refine bk_ret ?_
      refine sq_ret ?_
      refine fin_ret [(.bool ((within p.n 0 200) && (decide ((p.sl.length : Int) = 0))))] ⟨rfl, trivial⟩ ?_
      exact ⟨vbool (by first | exact (partOk_1 (p := p.a) (by assumption)).symm | exact (partOk_3 (p := p.a) (by assumption)).symm | exact (partOk_2 (p := p.a) (by assumption)).symm | exact (partOk_2s (p := p.a) (by assumption)).symm | exact (partOk_no (p := p.a) (by assumption) (by assumption) (by assumption)).symm), hM.rel⟩
    · skip
      have hc8b := hc8
      have hc8 := of_decide_eq_false hc8
      refine wc_seq ?_
      refine wc_region ?_
      refine wv rfl (r_eql rfl rfl) ?_
      refine wv rfl (r_assign rfl) ?_
      refine wl_nil ?_
      refine sq_n ?_
      refine wc_cond rfl (fun hc13 => ?_) (fun hc13 => ?_)
      · skip
        have hc13b := hc13
        have hc13 := of_decide_eq_true hc13
        refine wc_seq ?_
        refine wc_region ?_
        refine wv rfl (r_fld Try.underlying83 rfl rfl sz3 rfl) ?_
        refine wv rfl (r_ldB Try.underlying3 rfl rfl (hM.at' (.head _)) rfl) ?_
        refine wv rfl (r_eql rfl rfl) ?_
        refine wv rfl (r_move rfl) ?_
        refine wl_mid 5 (fun _ : Unit => [(27, (.bool ((decide (p.n = 0)) && (decide ((p.sl.length : Int) ≤ 200))))), (1, (.pointer (some ⟨b1, 0, none⟩)))]) (fun _ w' => St (b0 w) [oBox b1 #[(.int .i64 p.kind), (.int .i64 p.n), p.sv.v] 83] [([p.sv.v], dFs 1 fI p.sl)] w') ?_ ?_
        · rcases Bool.eq_false_or_eq_true (decide (p.n = 0)) with hg14 | hg14
          · skip
            have hg14p := of_decide_eq_true hg14
            refine gv rfl hg14 rfl (r_fld Try.underlying83 rfl rfl sz22 rfl) ?_
            refine gv rfl hg14 rfl (r_ldB Try.underlying22 rfl rfl (hM.at' (.head _)) rfl) ?_
            refine gv rfl hg14 rfl (r_lenF Try.underlying22 rfl (hM.arg (.head _))) ?_
            refine gv rfl hg14 rfl (r_leq rfl rfl) ?_
            refine wv rfl (p_t rfl hg14 rfl) ?_
            exact mid_nil () ⟨bcongr (and_t hg14), rfl, trivial⟩ hM
          · skip
            have hg14p := of_decide_eq_false hg14
            refine gs rfl (isB_no hg14) rfl ?_
            refine gs rfl (isB_no hg14) rfl ?_
            refine gs rfl (isB_no hg14) rfl ?_
            refine gs rfl (isB_no hg14) rfl ?_
            refine wv rfl (p_f rfl hg14 rfl) ?_
            exact mid_nil () ⟨bcongr (and_f hg14), rfl, trivial⟩ hM
        rintro _ w15 hM
        refine wv rfl (r_move rfl) ?_
        refine wl_mid 4 (fun _ : Unit => [(32, (.bool (((decide (p.n = 0)) && (decide ((p.sl.length : Int) ≤ 200))) && (signsOk p.sl))))]) (fun _ w' => St (b0 w) [oBox b1 #[(.int .i64 p.kind), (.int .i64 p.n), p.sv.v] 83] [([p.sv.v], dFs 1 fI p.sl)] w') ?_ ?_
        · rcases Bool.eq_false_or_eq_true ((decide (p.n = 0)) && (decide ((p.sl.length : Int) ≤ 200))) with hg16 | hg16
          · skip
            refine gv rfl hg16 rfl (r_fld Try.underlying83 rfl rfl sz22 rfl) ?_
            refine gv rfl hg16 rfl (r_ldB Try.underlying22 rfl rfl (hM.at' (.head _)) rfl) ?_
            refine gc rfl hg16 rfl rfl (ct_impl_SignsOk _ _ p.sl (hM.arg (.head _))) ?_
            rintro _ w17 ⟨rfl, hR18⟩
            have hM := hM.call hR18
            refine wv rfl (p_t rfl hg16 rfl) ?_
            exact mid_nil () ⟨bcongr (and_t hg16), trivial⟩ hM
          · skip
            refine gs rfl (isB_no hg16) rfl ?_
            refine gs rfl (isB_no hg16) rfl ?_
            refine gs rfl (isB_no hg16) rfl ?_
            refine wv rfl (p_f rfl hg16 rfl) ?_
            exact mid_nil () ⟨bcongr (and_f hg16), trivial⟩ hM
        rintro _ w19 hM
        refine wv rfl (r_assign rfl) ?_
        refine wl_nil ?_
        refine sq_n ?_
        refine wc_ret ?_
        refine bk_ret ?_
        refine sq_ret ?_
        refine fin_ret [(.bool (((decide (p.n = 0)) && (decide ((p.sl.length : Int) ≤ 200))) && (signsOk p.sl)))] ⟨rfl, trivial⟩ ?_
        exact ⟨vbool (by first | exact (partOk_1 (p := p.a) (by assumption)).symm | exact (partOk_3 (p := p.a) (by assumption)).symm | exact (partOk_2 (p := p.a) (by assumption)).symm | exact (partOk_2s (p := p.a) (by assumption)).symm | exact (partOk_no (p := p.a) (by assumption) (by assumption) (by assumption)).symm), hM.rel⟩
      · skip
        have hc13b := hc13
        have hc13 := of_decide_eq_false hc13
        refine wc_skip ?_
        refine bk_n ?_
        refine sq_n ?_
        refine wc_seq ?_
        refine wc_region ?_
        refine wv rfl (r_assign rfl) ?_
        refine wl_nil ?_
        refine sq_n ?_
        refine wc_ret ?_
        refine fin_ret [(.bool false)] ⟨rfl, trivial⟩ ?_
        exact ⟨vbool (by first | exact (partOk_1 (p := p.a) (by assumption)).symm | exact (partOk_3 (p := p.a) (by assumption)).symm | exact (partOk_2 (p := p.a) (by assumption)).symm | exact (partOk_2s (p := p.a) (by assumption)).symm | exact (partOk_no (p := p.a) (by assumption) (by assumption) (by assumption)).symm), hM.rel⟩

theorem ct_spec_PartOk (w : World) (p : PV) (a_p_0 : Arg w [p.sv.v] (dFs 1 fI p.sl)) : Ret Try.prog 160 [.agg #[(.int .i64 p.kind), (.int .i64 p.n), p.sv.v]] w (fun u w' => u = .bool (partOk p.a) ∧ Rel w w') := by
  refine enter Try.func160 rfl Try.ntmps160 (by kernel_rfl) rfl ?_
  have hM := St.init w
  have hM := hM.addA a_p_0
  have hl_p_0 := Fs.le a_p_0
  refine wc_seq ?_
  refine wc_region ?_
  refine w_box rfl rfl hM ?_; intro b1 w2 hM
  refine wv rfl (r_assign rfl) ?_
  refine wl_nil ?_
  refine sq_n ?_
  refine wc_seq ?_
  refine wc_seq ?_
  refine wc_region ?_
  refine wv rfl (r_fld Try.underlying83 rfl rfl sz3 rfl) ?_
  refine wv rfl (r_ldB Try.underlying3 rfl rfl (hM.at' (.head _)) rfl) ?_
  refine wl_nil ?_
  refine sq_n ?_
  refine wc_block ?_
  refine wc_seq ?_
  refine wc_seq ?_
  refine wc_region ?_
  refine wv rfl (r_eql rfl rfl) ?_
  refine wv rfl (r_assign rfl) ?_
  refine wl_nil ?_
  refine sq_n ?_
  refine wc_cond rfl (fun hc3 => ?_) (fun hc3 => ?_)
  · skip
    have hc3b := hc3
    have hc3 := of_decide_eq_true hc3
    refine wc_skip ?_
    refine sq_n ?_
    refine wc_cond_t (bcongr hc3b) ?_
    refine wc_seq ?_
    refine wc_region ?_
    refine wv rfl (r_fld Try.underlying83 rfl rfl sz3 rfl) ?_
    refine wv rfl (r_ldB Try.underlying3 rfl rfl (hM.at' (.head _)) rfl) ?_
    refine w_call rfl rfl (ct_spec_l01In _ p.n (0 : Int) (200 : Int)) ?_
    rintro _ w4 ⟨rfl, hR5⟩
    have hM := hM.call hR5
    refine wv rfl (r_move rfl) ?_
    refine wl_mid 5 (fun _ : Unit => [(16, (.bool ((within p.n 0 200) && (decide ((p.sl.length : Int) = 0)))))]) (fun _ w' => St (b0 w) [oBox b1 #[(.int .i64 p.kind), (.int .i64 p.n), p.sv.v] 83] [([p.sv.v], dFs 1 fI p.sl)] w') ?_ ?_
    · rcases Bool.eq_false_or_eq_true (within p.n 0 200) with hg6 | hg6
      · skip
        refine gv rfl hg6 rfl (r_fld Try.underlying83 rfl rfl sz22 rfl) ?_
        refine gv rfl hg6 rfl (r_ldB Try.underlying22 rfl rfl (hM.at' (.head _)) rfl) ?_
        refine gv rfl hg6 rfl (r_lenF Try.underlying22 rfl (hM.arg (.head _))) ?_
        refine gv rfl hg6 rfl (r_eql rfl rfl) ?_
        refine wv rfl (p_t rfl hg6 rfl) ?_
        exact mid_nil () ⟨bcongr (and_t hg6), trivial⟩ hM
      · skip
        refine gs rfl (isB_no hg6) rfl ?_
        refine gs rfl (isB_no hg6) rfl ?_
        refine gs rfl (isB_no hg6) rfl ?_
        refine gs rfl (isB_no hg6) rfl ?_
        refine wv rfl (p_f rfl hg6 rfl) ?_
        exact mid_nil () ⟨bcongr (and_f hg6), trivial⟩ hM
    rintro _ w7 hM
    refine wv rfl (r_assign rfl) ?_
    refine wl_nil ?_
    refine sq_n ?_
    refine wc_ret ?_
    refine bk_ret ?_
    refine sq_ret ?_
    refine fin_ret [(.bool ((within p.n 0 200) && (decide ((p.sl.length : Int) = 0))))] ⟨rfl, trivial⟩ ?_
    exact ⟨vbool (by first | exact (partOk_1 (p := p.a) (by assumption)).symm | exact (partOk_3 (p := p.a) (by assumption)).symm | exact (partOk_2 (p := p.a) (by assumption)).symm | exact (partOk_2s (p := p.a) (by assumption)).symm | exact (partOk_no (p := p.a) (by assumption) (by assumption) (by assumption)).symm), hM.rel⟩
  · skip
    have hc3b := hc3
    have hc3 := of_decide_eq_false hc3
    refine wc_region ?_
    refine wv rfl (r_eql rfl rfl) ?_
    refine wv rfl (r_assign rfl) ?_
    refine wl_nil ?_
    refine sq_n ?_
    refine wc_cond rfl (fun hc8 => ?_) (fun hc8 => ?_)
    · skip
      have hc8b := hc8
      have hc8 := of_decide_eq_true hc8
      refine wc_seq ?_
      refine wc_region ?_
      refine wv rfl (r_fld Try.underlying83 rfl rfl sz3 rfl) ?_
      refine wv rfl (r_ldB Try.underlying3 rfl rfl (hM.at' (.head _)) rfl) ?_
      refine w_call rfl rfl (ct_spec_l01In _ p.n (0 : Int) (200 : Int)) ?_
      rintro _ w9 ⟨rfl, hR10⟩
      have hM := hM.call hR10
      refine wv rfl (r_move rfl) ?_
      refine wl_mid 5 (fun _ : Unit => [(16, (.bool ((within p.n 0 200) && (decide ((p.sl.length : Int) = 0)))))]) (fun _ w' => St (b0 w) [oBox b1 #[(.int .i64 p.kind), (.int .i64 p.n), p.sv.v] 83] [([p.sv.v], dFs 1 fI p.sl)] w') ?_ ?_
      · rcases Bool.eq_false_or_eq_true (within p.n 0 200) with hg11 | hg11
        · skip
          refine gv rfl hg11 rfl (r_fld Try.underlying83 rfl rfl sz22 rfl) ?_
          refine gv rfl hg11 rfl (r_ldB Try.underlying22 rfl rfl (hM.at' (.head _)) rfl) ?_
          refine gv rfl hg11 rfl (r_lenF Try.underlying22 rfl (hM.arg (.head _))) ?_
          refine gv rfl hg11 rfl (r_eql rfl rfl) ?_
          refine wv rfl (p_t rfl hg11 rfl) ?_
          exact mid_nil () ⟨bcongr (and_t hg11), trivial⟩ hM
        · skip
          refine gs rfl (isB_no hg11) rfl ?_
          refine gs rfl (isB_no hg11) rfl ?_
          refine gs rfl (isB_no hg11) rfl ?_
          refine gs rfl (isB_no hg11) rfl ?_
          refine wv rfl (p_f rfl hg11 rfl) ?_
          exact mid_nil () ⟨bcongr (and_f hg11), trivial⟩ hM
      rintro _ w12 hM
      refine wv rfl (r_assign rfl) ?_
      refine wl_nil ?_
      refine sq_n ?_
      refine wc_ret ?_
      refine bk_ret ?_
      refine sq_ret ?_
      refine fin_ret [(.bool ((within p.n 0 200) && (decide ((p.sl.length : Int) = 0))))] ⟨rfl, trivial⟩ ?_
      exact ⟨vbool (by first | exact (partOk_1 (p := p.a) (by assumption)).symm | exact (partOk_3 (p := p.a) (by assumption)).symm | exact (partOk_2 (p := p.a) (by assumption)).symm | exact (partOk_2s (p := p.a) (by assumption)).symm | exact (partOk_no (p := p.a) (by assumption) (by assumption) (by assumption)).symm), hM.rel⟩
    · skip
      have hc8b := hc8
      have hc8 := of_decide_eq_false hc8
      refine wc_seq ?_
      refine wc_region ?_
      refine wv rfl (r_eql rfl rfl) ?_
      refine wv rfl (r_assign rfl) ?_
      refine wl_nil ?_
      refine sq_n ?_
      refine wc_cond rfl (fun hc13 => ?_) (fun hc13 => ?_)
      · skip
        have hc13b := hc13
        have hc13 := of_decide_eq_true hc13
        refine wc_seq ?_
        refine wc_region ?_
        refine wv rfl (r_fld Try.underlying83 rfl rfl sz3 rfl) ?_
        refine wv rfl (r_ldB Try.underlying3 rfl rfl (hM.at' (.head _)) rfl) ?_
        refine wv rfl (r_eql rfl rfl) ?_
        refine wv rfl (r_move rfl) ?_
        refine wl_mid 4 (fun _ : Unit => [(26, (.bool ((decide (p.n = 0)) && (signsOk p.sl)))), (1, (.pointer (some ⟨b1, 0, none⟩)))]) (fun _ w' => St (b0 w) [oBox b1 #[(.int .i64 p.kind), (.int .i64 p.n), p.sv.v] 83] [([p.sv.v], dFs 1 fI p.sl)] w') ?_ ?_
        · rcases Bool.eq_false_or_eq_true (decide (p.n = 0)) with hg14 | hg14
          · skip
            have hg14p := of_decide_eq_true hg14
            refine gv rfl hg14 rfl (r_fld Try.underlying83 rfl rfl sz22 rfl) ?_
            refine gv rfl hg14 rfl (r_ldB Try.underlying22 rfl rfl (hM.at' (.head _)) rfl) ?_
            refine gc rfl hg14 rfl rfl (ct_spec_SignsOk _ _ p.sl (hM.arg (.head _))) ?_
            rintro _ w15 ⟨rfl, hR16⟩
            have hM := hM.call hR16
            refine wv rfl (p_t rfl hg14 rfl) ?_
            exact mid_nil () ⟨bcongr (and_t hg14), rfl, trivial⟩ hM
          · skip
            have hg14p := of_decide_eq_false hg14
            refine gs rfl (isB_no hg14) rfl ?_
            refine gs rfl (isB_no hg14) rfl ?_
            refine gs rfl (isB_no hg14) rfl ?_
            refine wv rfl (p_f rfl hg14 rfl) ?_
            exact mid_nil () ⟨bcongr (and_f hg14), rfl, trivial⟩ hM
        rintro _ w17 hM
        refine wv rfl (r_move rfl) ?_
        refine wl_mid 5 (fun _ : Unit => [(32, (.bool (((decide (p.n = 0)) && (signsOk p.sl)) && (decide ((p.sl.length : Int) ≤ 200)))))]) (fun _ w' => St (b0 w) [oBox b1 #[(.int .i64 p.kind), (.int .i64 p.n), p.sv.v] 83] [([p.sv.v], dFs 1 fI p.sl)] w') ?_ ?_
        · rcases Bool.eq_false_or_eq_true ((decide (p.n = 0)) && (signsOk p.sl)) with hg18 | hg18
          · skip
            refine gv rfl hg18 rfl (r_fld Try.underlying83 rfl rfl sz22 rfl) ?_
            refine gv rfl hg18 rfl (r_ldB Try.underlying22 rfl rfl (hM.at' (.head _)) rfl) ?_
            refine gv rfl hg18 rfl (r_lenF Try.underlying22 rfl (hM.arg (.head _))) ?_
            refine gv rfl hg18 rfl (r_leq rfl rfl) ?_
            refine wv rfl (p_t rfl hg18 rfl) ?_
            exact mid_nil () ⟨bcongr (and_t hg18), trivial⟩ hM
          · skip
            refine gs rfl (isB_no hg18) rfl ?_
            refine gs rfl (isB_no hg18) rfl ?_
            refine gs rfl (isB_no hg18) rfl ?_
            refine gs rfl (isB_no hg18) rfl ?_
            refine wv rfl (p_f rfl hg18 rfl) ?_
            exact mid_nil () ⟨bcongr (and_f hg18), trivial⟩ hM
        rintro _ w19 hM
        refine wv rfl (r_assign rfl) ?_
        refine wl_nil ?_
        refine sq_n ?_
        refine wc_ret ?_
        refine bk_ret ?_
        refine sq_ret ?_
        refine fin_ret [(.bool (((decide (p.n = 0)) && (signsOk p.sl)) && (decide ((p.sl.length : Int) ≤ 200))))] ⟨rfl, trivial⟩ ?_
        exact ⟨vbool (by first | exact (partOk_1 (p := p.a) (by assumption)).symm | exact (partOk_3 (p := p.a) (by assumption)).symm | exact (partOk_2 (p := p.a) (by assumption)).symm | exact (partOk_2s (p := p.a) (by assumption)).symm | exact (partOk_no (p := p.a) (by assumption) (by assumption) (by assumption)).symm), hM.rel⟩
      · skip
        have hc13b := hc13
        have hc13 := of_decide_eq_false hc13
        refine wc_skip ?_
        refine bk_n ?_
        refine sq_n ?_
        refine wc_seq ?_
        refine wc_region ?_
        refine wv rfl (r_assign rfl) ?_
        refine wl_nil ?_
        refine sq_n ?_
        refine wc_ret ?_
        refine fin_ret [(.bool false)] ⟨rfl, trivial⟩ ?_
        exact ⟨vbool (by first | exact (partOk_1 (p := p.a) (by assumption)).symm | exact (partOk_3 (p := p.a) (by assumption)).symm | exact (partOk_2 (p := p.a) (by assumption)).symm | exact (partOk_2s (p := p.a) (by assumption)).symm | exact (partOk_no (p := p.a) (by assumption) (by assumption) (by assumption)).symm), hM.rel⟩

theorem ct_impl_partsOk (w : World) (v_o : Value) (o : List PV) (a_o : Arg w [v_o] (dDeep 3 fP iP o)) : Ret Try.prog 142 [v_o] w (fun u w' => u = .bool (partsOk (pa o)) ∧ Rel w w') := by
  refine enter Try.func142 rfl Try.ntmps142 (by kernel_rfl) rfl ?_
  have hM := St.init w
  have hM := hM.addA a_o
  have hl_o := Fs.le (Deep.fl a_o)
  refine wc_seq ?_
  refine wc_region ?_
  refine wv rfl (r_assign rfl) ?_
  refine wl_nil ?_
  refine sq_n ?_
  refine wc_seq ?_
  refine wc_seq ?_
  refine wc_region ?_
  refine wv rfl (r_move rfl) ?_
  refine wv rfl (r_lenF Try.underlying41 rfl (Deep.fl (hM.arg (.head _)))) ?_
  refine wv rfl (r_move rfl) ?_
  refine wl_nil ?_
  refine sq_n ?_
  refine wc_block ?_
  refine wc_loop1 (fun (k : Nat) => [(0, v_o), (5, v_o), (6, (.int .i64 (o.length : Int))), (7, (.int .i64 (k : Int)))]) (fun (k : Nat) w' => St (b0 w) [] [([v_o], dDeep 3 fP iP o)] w' ∧ k ≤ o.length ∧ (pa (o.take k)).all partOk = true) (fun (k : Nat) => o.length - k) 0 ⟨rfl, rfl, rfl, rfl, trivial⟩ ⟨hM, (by omega), (rfl)⟩ ?_
  rintro k w1 ⟨hM, hf0_0, hf0_1⟩
  refine wc_seq ?_
  refine wc_region ?_
  refine wv rfl (r_lss rfl rfl) ?_
  refine wl_nil ?_
  refine sq_n ?_
  refine wc_seq ?_
  refine wc_cond rfl (fun hc2 => ?_) (fun hc2 => ?_)
  · skip
    have hc2 := of_decide_eq_true hc2
    refine wc_skip ?_
    refine sq_n ?_
    refine wc_seq ?_
    refine wc_block ?_
    refine wc_seq ?_
    refine wc_region ?_
    refine wv rfl (r_ixF Try.underlying41 sz83 rfl rfl (Deep.fl (hM.arg (.head _))) ⟨by omega, by omega⟩) ?_
    have hM := hM.more (Deep.elem (hM.see (.head _)) (i := k) pv0 (by omega) (r := ([(o.getD k pv0).sv.v], dFs 1 fI ((o.getD k pv0).sl))) (.head _))
    refine wv rfl (r_ldFS (i := k) pv0 Try.underlying83 sz83 (fun _ => rfl) rfl (Deep.fl (hM.arg (.tail _ (.head _)))) (by omega)) ?_
    refine w_alloc rfl sz83 hM ?_; intro b3 w4 hM
    refine w_stB sz83 rfl rfl rfl hM rfl rfl ?_; intro w5 hM
    refine wl_nil ?_
    refine sq_n ?_
    refine wc_seq ?_
    refine wc_region ?_
    refine wv rfl (r_ldBS Try.underlying83 sz83 rfl (cs := [(.int .i64 ((o.getD k pv0).kind)), (.int .i64 ((o.getD k pv0).n)), (o.getD k pv0).sv.v]) rfl (hM.at' (.head _))) ?_
    refine w_call rfl rfl (ct_impl_PartOk _ (o.getD k pv0 : PV) (hM.arg (.head _))) ?_
    rintro _ w6 ⟨rfl, hR7⟩
    have hM := hM.call hR7
    refine wv rfl (r_not rfl) ?_
    refine wl_nil ?_
    refine sq_n ?_
    refine wc_cond rfl (fun hc8 => ?_) (fun hc8 => ?_)
    · skip
      have hc8 := bnot_t hc8
      refine wc_seq ?_
      refine wc_region ?_
      refine wv rfl (r_assign rfl) ?_
      refine wl_nil ?_
      refine sq_n ?_
      refine wc_ret ?_
      refine bk_ret ?_
      refine sq_ret ?_
      refine lp1_ret ?_
      refine bk_ret ?_
      refine sq_ret ?_
      refine fin_ret [(.bool false)] ⟨rfl, trivial⟩ ?_
      exact ⟨vbool ((parts_no (k := k) (by omega) (by assumption)).symm), hM.rel⟩
    · skip
      have hc8 := bnot_f hc8
      refine wc_skip ?_
      refine bk_n ?_
      refine sq_n ?_
      refine wc_region ?_
      refine wv rfl (r_add rfl rfl ⟨by omega, by omega⟩) ?_
      refine wv rfl (r_move rfl) ?_
      refine wl_nil ?_
      have hM := hM.drop
      have hM := hM.lessR
      exact lp_end1 (k + 1) (by omega) ⟨rfl, rfl, rfl, rfl, trivial⟩ ⟨hM, (by omega), (parts_step (by omega) hf0_1 (by assumption))⟩
  · skip
    have hc2 := of_decide_eq_false hc2
    refine wc_exit ?_
    refine sq_exit ?_
    refine lp1_exit ?_
    refine bk_here ?_
    refine sq_n ?_
    refine wc_seq ?_
    refine wc_region ?_
    refine wv rfl (r_move rfl) ?_
    refine wv rfl (r_lenF Try.underlying41 rfl (Deep.fl (hM.arg (.head _)))) ?_
    refine wv rfl (r_leq rfl rfl) ?_
    refine wv rfl (r_assign rfl) ?_
    refine wl_nil ?_
    refine sq_n ?_
    refine wc_ret ?_
    refine fin_ret [(.bool (decide ((o.length : Int) ≤ 600)))] ⟨rfl, trivial⟩ ?_
    exact ⟨vbool ((parts_end (k := k) (by omega) hf0_1).symm), hM.rel⟩

theorem ct_spec_l02Parts (w : World) (v_o : Value) (o : List PV) (a_o : Arg w [v_o] (dDeep 3 fP iP o)) : Ret Try.prog 149 [v_o] w (fun u w' => u = .bool (partsOk (pa o)) ∧ Rel w w') := by
  refine enter Try.func149 rfl Try.ntmps149 (by kernel_rfl) rfl ?_
  have hM := St.init w
  have hM := hM.addA a_o
  have hl_o := Fs.le (Deep.fl a_o)
  refine wc_seq ?_
  refine wc_region ?_
  refine wv rfl (r_assign rfl) ?_
  refine wl_nil ?_
  refine sq_n ?_
  refine wc_seq ?_
  refine wc_seq ?_
  refine wc_region ?_
  refine wv rfl (r_move rfl) ?_
  refine wv rfl (r_lenF Try.underlying41 rfl (Deep.fl (hM.arg (.head _)))) ?_
  refine wv rfl (r_move rfl) ?_
  refine wl_nil ?_
  refine sq_n ?_
  refine wc_block ?_
  refine wc_loop1 (fun (k : Nat) => [(0, v_o), (5, v_o), (6, (.int .i64 (o.length : Int))), (7, (.int .i64 (k : Int)))]) (fun (k : Nat) w' => St (b0 w) [] [([v_o], dDeep 3 fP iP o)] w' ∧ k ≤ o.length ∧ (pa (o.take k)).all partOk = true) (fun (k : Nat) => o.length - k) 0 ⟨rfl, rfl, rfl, rfl, trivial⟩ ⟨hM, (by omega), (rfl)⟩ ?_
  rintro k w1 ⟨hM, hf0_0, hf0_1⟩
  refine wc_seq ?_
  refine wc_region ?_
  refine wv rfl (r_lss rfl rfl) ?_
  refine wl_nil ?_
  refine sq_n ?_
  refine wc_seq ?_
  refine wc_cond rfl (fun hc2 => ?_) (fun hc2 => ?_)
  · skip
    have hc2 := of_decide_eq_true hc2
    refine wc_skip ?_
    refine sq_n ?_
    refine wc_seq ?_
    refine wc_block ?_
    refine wc_seq ?_
    refine wc_region ?_
    refine wv rfl (r_ixF Try.underlying41 sz83 rfl rfl (Deep.fl (hM.arg (.head _))) ⟨by omega, by omega⟩) ?_
    have hM := hM.more (Deep.elem (hM.see (.head _)) (i := k) pv0 (by omega) (r := ([(o.getD k pv0).sv.v], dFs 1 fI ((o.getD k pv0).sl))) (.head _))
    refine wv rfl (r_ldFS (i := k) pv0 Try.underlying83 sz83 (fun _ => rfl) rfl (Deep.fl (hM.arg (.tail _ (.head _)))) (by omega)) ?_
    refine w_alloc rfl sz83 hM ?_; intro b3 w4 hM
    refine w_stB sz83 rfl rfl rfl hM rfl rfl ?_; intro w5 hM
    refine wl_nil ?_
    refine sq_n ?_
    refine wc_seq ?_
    refine wc_region ?_
    refine wv rfl (r_ldBS Try.underlying83 sz83 rfl (cs := [(.int .i64 ((o.getD k pv0).kind)), (.int .i64 ((o.getD k pv0).n)), (o.getD k pv0).sv.v]) rfl (hM.at' (.head _))) ?_
    refine w_call rfl rfl (ct_spec_PartOk _ (o.getD k pv0 : PV) (hM.arg (.head _))) ?_
    rintro _ w6 ⟨rfl, hR7⟩
    have hM := hM.call hR7
    refine wv rfl (r_not rfl) ?_
    refine wl_nil ?_
    refine sq_n ?_
    refine wc_cond rfl (fun hc8 => ?_) (fun hc8 => ?_)
    · skip
      have hc8 := bnot_t hc8
      refine wc_seq ?_
      refine wc_region ?_
      refine wv rfl (r_assign rfl) ?_
      refine wl_nil ?_
      refine sq_n ?_
      refine wc_ret ?_
      refine bk_ret ?_
      refine sq_ret ?_
      refine lp1_ret ?_
      refine bk_ret ?_
      refine sq_ret ?_
      refine fin_ret [(.bool false)] ⟨rfl, trivial⟩ ?_
      exact ⟨vbool ((parts_no (k := k) (by omega) (by assumption)).symm), hM.rel⟩
    · skip
      have hc8 := bnot_f hc8
      refine wc_skip ?_
      refine bk_n ?_
      refine sq_n ?_
      refine wc_region ?_
      refine wv rfl (r_add rfl rfl ⟨by omega, by omega⟩) ?_
      refine wv rfl (r_move rfl) ?_
      refine wl_nil ?_
      have hM := hM.drop
      have hM := hM.lessR
      exact lp_end1 (k + 1) (by omega) ⟨rfl, rfl, rfl, rfl, trivial⟩ ⟨hM, (by omega), (parts_step (by omega) hf0_1 (by assumption))⟩
  · skip
    have hc2 := of_decide_eq_false hc2
    refine wc_exit ?_
    refine sq_exit ?_
    refine lp1_exit ?_
    refine bk_here ?_
    refine sq_n ?_
    refine wc_seq ?_
    refine wc_region ?_
    refine wv rfl (r_move rfl) ?_
    refine wv rfl (r_lenF Try.underlying41 rfl (Deep.fl (hM.arg (.head _)))) ?_
    refine wv rfl (r_leq rfl rfl) ?_
    refine wv rfl (r_assign rfl) ?_
    refine wl_nil ?_
    refine sq_n ?_
    refine wc_ret ?_
    refine fin_ret [(.bool (decide ((o.length : Int) ≤ 600)))] ⟨rfl, trivial⟩ ?_
    exact ⟨vbool ((parts_end (k := k) (by omega) hf0_1).symm), hM.rel⟩

theorem ct_impl_size (w : World) (p : PV) (a_p_0 : Arg w [p.sv.v] (dFs 1 fI p.sl)) (hp0 : partOk p.a = true) : Ret Try.prog 152 [.agg #[(.int .i64 p.kind), (.int .i64 p.n), p.sv.v]] w (fun u w' => u = .int .i64 (pSize p.a) ∧ Rel w w') := by
  refine enter Try.func152 rfl Try.ntmps152 (by kernel_rfl) rfl ?_
  have hM := St.init w
  have hM := hM.addA a_p_0
  have hl_p_0 := Fs.le a_p_0
  have hps : 0 ≤ p.n + (p.sl.length : Int) ∧ p.n + (p.sl.length : Int) ≤ 200 := pSize_bd hp0
  refine wc_seq ?_
  refine wc_region ?_
  refine w_box rfl rfl hM ?_; intro b1 w2 hM
  refine wv rfl (r_assign rfl) ?_
  refine wl_nil ?_
  refine sq_n ?_
  refine wc_seq ?_
  refine wc_region ?_
  refine wv rfl (r_fld Try.underlying83 rfl rfl sz3 rfl) ?_
  refine wv rfl (r_ldB Try.underlying3 rfl rfl (hM.at' (.head _)) rfl) ?_
  refine wv rfl (r_fld Try.underlying83 rfl rfl sz22 rfl) ?_
  refine wv rfl (r_ldB Try.underlying22 rfl rfl (hM.at' (.head _)) rfl) ?_
  refine wv rfl (r_lenF Try.underlying22 rfl (hM.arg (.head _))) ?_
  refine wv rfl (r_add rfl rfl ⟨by omega, by omega⟩) ?_
  refine wv rfl (r_assign rfl) ?_
  refine wl_nil ?_
  refine sq_n ?_
  refine wc_ret ?_
  refine fin_ret [(.int .i64 (p.n + (p.sl.length : Int)))] ⟨rfl, trivial⟩ ?_
  exact ⟨vint (rfl), hM.rel⟩

theorem ct_impl_sizeOf (w : World) (v_o : Value) (o : List PV) (a_o : Arg w [v_o] (dDeep 3 fP iP o)) (but : Int) : Ret Try.prog 144 [v_o, .int .i64 but] w (fun u w' => u = .int .i64 (if partsOk (pa o) then sumBy (gBut but) (pa o) else 0) ∧ Rel w w') := by
  refine enter Try.func144 rfl Try.ntmps144 (by kernel_rfl) rfl ?_
  have hM := St.init w
  have hM := hM.addA a_o
  have hl_o := Fs.le (Deep.fl a_o)
  refine wc_seq ?_
  refine wc_region ?_
  refine wv rfl (r_assign rfl) ?_
  refine wl_nil ?_
  refine sq_n ?_
  refine wc_seq ?_
  refine wc_seq ?_
  refine wc_region ?_
  refine wv rfl (r_move rfl) ?_
  refine w_call rfl rfl (ct_impl_partsOk _ _ o (hM.arg (.head _))) ?_
  rintro _ w1 ⟨rfl, hR2⟩
  have hM := hM.call hR2
  refine wv rfl (r_not rfl) ?_
  refine wl_nil ?_
  refine sq_n ?_
  refine wc_cond rfl (fun hc3 => ?_) (fun hc3 => ?_)
  · skip
    have hc3 := bnot_t hc3
    refine wc_seq ?_
    refine wc_region ?_
    refine wv rfl (r_assign rfl) ?_
    refine wl_nil ?_
    refine sq_n ?_
    refine wc_ret ?_
    refine sq_ret ?_
    refine fin_ret [(.int .i64 0)] ⟨rfl, trivial⟩ ?_
    exact ⟨vint (sz_no (by assumption)), hM.rel⟩
  · skip
    have hc3 := bnot_f hc3
    have hpo := hc3
    have hpl := partsOk_len hc3
    have hpl2 := pa_len o
    refine wc_skip ?_
    refine sq_n ?_
    refine wc_seq ?_
    refine wc_region ?_
    refine wv rfl (r_assign rfl) ?_
    refine wl_nil ?_
    refine sq_n ?_
    refine wc_seq ?_
    refine wc_seq ?_
    refine wc_region ?_
    refine wv rfl (r_move rfl) ?_
    refine wv rfl (r_lenF Try.underlying41 rfl (Deep.fl (hM.arg (.head _)))) ?_
    refine wv rfl (r_move rfl) ?_
    refine wl_nil ?_
    refine sq_n ?_
    refine wc_block ?_
    refine wc_loop1 (fun (k : Nat) => [(1, (.int .i64 but)), (5, (.int .i64 (sumBy (gBut but) (pa (o.take k))))), (11, v_o), (12, (.int .i64 (o.length : Int))), (13, (.int .i64 (k : Int)))]) (fun (k : Nat) w' => St (b0 w) [] [([v_o], dDeep 3 fP iP o)] w' ∧ k ≤ o.length) (fun (k : Nat) => o.length - k) 0 ⟨rfl, rfl, rfl, rfl, rfl, trivial⟩ ⟨hM, (by omega)⟩ ?_
    rintro k w4 ⟨hM, hf0_0⟩
    have hsb := gBut_bd (k := but) hpo k
    rw [← pa_take] at hsb
    skip
    refine wc_seq ?_
    refine wc_region ?_
    refine wv rfl (r_lss rfl rfl) ?_
    refine wl_nil ?_
    refine sq_n ?_
    refine wc_seq ?_
    refine wc_cond rfl (fun hc5 => ?_) (fun hc5 => ?_)
    · skip
      have hc5 := of_decide_eq_true hc5
      refine wc_skip ?_
      refine sq_n ?_
      refine wc_seq ?_
      refine wc_block ?_
      refine wc_seq ?_
      refine wc_region ?_
      refine wv rfl (r_ixF Try.underlying41 sz83 rfl rfl (Deep.fl (hM.arg (.head _))) ⟨by omega, by omega⟩) ?_
      have hM := hM.more (Deep.elem (hM.see (.head _)) (i := k) pv0 (by omega) (r := ([(o.getD k pv0).sv.v], dFs 1 fI ((o.getD k pv0).sl))) (.head _))
      refine wv rfl (r_ldFS (i := k) pv0 Try.underlying83 sz83 (fun _ => rfl) rfl (Deep.fl (hM.arg (.tail _ (.head _)))) (by omega)) ?_
      refine w_alloc rfl sz83 hM ?_; intro b6 w7 hM
      refine w_stB sz83 rfl rfl rfl hM rfl rfl ?_; intro w8 hM
      refine wl_nil ?_
      refine sq_n ?_
      refine wc_seq ?_
      refine wc_region ?_
      refine wv rfl (r_fld Try.underlying83 rfl rfl sz3 rfl) ?_
      refine wv rfl (r_ldB Try.underlying3 rfl rfl (hM.at' (.head _)) rfl) ?_
      refine wv rfl (r_move rfl) ?_
      refine wv rfl (r_neq rfl rfl) ?_
      refine wl_nil ?_
      refine sq_n ?_
      refine wc_cond rfl (fun hc9 => ?_) (fun hc9 => ?_)
      · skip
        have hc9 := bnot_t hc9
        have hc9 := of_decide_eq_false hc9
        refine wc_region ?_
        refine wv rfl (r_move rfl) ?_
        refine wv rfl (r_ldBS Try.underlying83 sz83 rfl (cs := [(.int .i64 ((o.getD k pv0).kind)), (.int .i64 ((o.getD k pv0).n)), (o.getD k pv0).sv.v]) rfl (hM.at' (.head _))) ?_
        refine w_call rfl rfl (ct_impl_size _ (o.getD k pv0 : PV) (hM.arg (.head _)) (partsOk_mem hpo _ (pa_mem (by omega)))) ?_
        rintro _ w10 ⟨rfl, hR11⟩
        have hM := hM.call hR11
        have hsz := pSize_bd (partsOk_mem hpo _ (pa_mem (l := o) (i := k) (by omega)))
        refine wv rfl (r_add rfl rfl ⟨by omega, by omega⟩) ?_
        refine wv rfl (r_assign rfl) ?_
        refine wl_nil ?_
        refine bk_n ?_
        refine sq_n ?_
        refine wc_region ?_
        refine wv rfl (r_add rfl rfl ⟨by omega, by omega⟩) ?_
        refine wv rfl (r_move rfl) ?_
        refine wl_nil ?_
        have hM := hM.drop
        have hM := hM.lessR
        exact lp_end1 (k + 1) (by omega) ⟨rfl, icongr (by rw [pa_sum _ _ _ (by omega), gBut_y (by assumption)]), rfl, rfl, rfl, trivial⟩ ⟨hM, (by omega)⟩
      · skip
        have hc9 := bnot_f hc9
        have hc9 := of_decide_eq_true hc9
        refine wc_skip ?_
        refine bk_n ?_
        refine sq_n ?_
        refine wc_region ?_
        refine wv rfl (r_add rfl rfl ⟨by omega, by omega⟩) ?_
        refine wv rfl (r_move rfl) ?_
        refine wl_nil ?_
        have hM := hM.drop
        have hM := hM.lessR
        exact lp_end1 (k + 1) (by omega) ⟨rfl, icongr (by rw [pa_sum _ _ _ (by omega), gBut_n (by assumption)]; omega), rfl, rfl, rfl, trivial⟩ ⟨hM, (by omega)⟩
    · skip
      have hc5 := of_decide_eq_false hc5
      refine wc_exit ?_
      refine sq_exit ?_
      refine lp1_exit ?_
      refine bk_here ?_
      refine sq_n ?_
      refine wc_seq ?_
      refine wc_region ?_
      refine wv rfl (r_move rfl) ?_
      refine wv rfl (r_assign rfl) ?_
      refine wl_nil ?_
      refine sq_n ?_
      refine wc_ret ?_
      refine fin_ret [(.int .i64 (sumBy (gBut but) (pa (o.take k))))] ⟨rfl, trivial⟩ ?_
      exact ⟨vint (sz_yes hpo (k := k) (by omega)), hM.rel⟩

theorem ct_impl_OpFrom (w : World) (v_o : Value) (o : List PV) (a_o : Arg w [v_o] (dDeep 3 fP iP o)) : Ret Try.prog 109 [v_o] w (fun u w' => u = .int .i64 (opFrom (pa o)) ∧ Rel w w') := by
  refine enter Try.func109 rfl Try.ntmps109 (by kernel_rfl) rfl ?_
  have hM := St.init w
  have hM := hM.addA a_o
  have hl_o := Fs.le (Deep.fl a_o)
  refine wc_seq ?_
  refine wc_region ?_
  refine wv rfl (r_assign rfl) ?_
  refine wl_nil ?_
  refine sq_n ?_
  refine wc_seq ?_
  refine wc_region ?_
  refine wv rfl (r_move rfl) ?_
  refine w_call rfl rfl (ct_impl_sizeOf _ _ o (hM.arg (.head _)) (2 : Int)) ?_
  rintro _ w1 ⟨rfl, hR2⟩
  have hM := hM.call hR2
  refine wv rfl (r_assign rfl) ?_
  refine wl_nil ?_
  refine sq_n ?_
  refine wc_ret ?_
  refine fin_ret [(.int .i64 (if partsOk (pa o) then sumBy (gBut 2) (pa o) else 0))] ⟨rfl, trivial⟩ ?_
  exact ⟨vint (rfl), hM.rel⟩

theorem ct_impl_OpTo (w : World) (v_o : Value) (o : List PV) (a_o : Arg w [v_o] (dDeep 3 fP iP o)) : Ret Try.prog 143 [v_o] w (fun u w' => u = .int .i64 (opTo (pa o)) ∧ Rel w w') := by
  refine enter Try.func143 rfl Try.ntmps143 (by kernel_rfl) rfl ?_
  have hM := St.init w
  have hM := hM.addA a_o
  have hl_o := Fs.le (Deep.fl a_o)
  refine wc_seq ?_
  refine wc_region ?_
  refine wv rfl (r_assign rfl) ?_
  refine wl_nil ?_
  refine sq_n ?_
  refine wc_seq ?_
  refine wc_region ?_
  refine wv rfl (r_move rfl) ?_
  refine w_call rfl rfl (ct_impl_sizeOf _ _ o (hM.arg (.head _)) (3 : Int)) ?_
  rintro _ w1 ⟨rfl, hR2⟩
  have hM := hM.call hR2
  refine wv rfl (r_assign rfl) ?_
  refine wl_nil ?_
  refine sq_n ?_
  refine wc_ret ?_
  refine fin_ret [(.int .i64 (if partsOk (pa o) then sumBy (gBut 3) (pa o) else 0))] ⟨rfl, trivial⟩ ?_
  exact ⟨vint (rfl), hM.rel⟩

end Go.Proofs.Ythnnhoabdhhkaaa
