/- Walks of functions of this program (printed by a program of ours, by the rules of the layer). No condition. -/
import Derived.Test.YthnnhoabdhhkaaaWS
namespace Go.Proofs.Ythnnhoabdhhkaaa
open Go.RowKit

theorem ct_EqualFunc_op (w : World) (v_a : Value) (a : List OV) (a_a : Arg w [v_a] (dDeep 1 fO iO a)) (v_b : Value) (b : List OV) (a_b : Arg w [v_b] (dDeep 1 fO iO b)) : Ret Try.prog 77 [v_a, v_b, (.func (.func 78) #[] #[])] w (fun u w' => u = .bool (decide (a.map OV.a = b.map OV.a)) ∧ Rel w w') := by
  refine enter Try.func77 rfl Try.ntmps77 (by kernel_rfl) rfl ?_
  have hM := St.init w
  have hM := hM.addA a_a
  have hl_a := Fs.le (Deep.fl a_a)
  have hM := hM.addA a_b
  have hl_b := Fs.le (Deep.fl a_b)
  refine wc_seq ?_
  refine wc_region ?_
  refine wv rfl (r_assign rfl) ?_
  refine wl_nil ?_
  refine sq_n ?_
  refine wc_seq ?_
  refine wc_seq ?_
  refine wc_region ?_
  refine wv rfl (r_move rfl) ?_
  refine wv rfl (r_lenF Try.underlying33 rfl (Deep.fl (hM.arg (.tail _ (.head _))))) ?_
  refine wv rfl (r_move rfl) ?_
  refine wv rfl (r_lenF Try.underlying33 rfl (Deep.fl (hM.arg (.head _)))) ?_
  refine wv rfl (r_neq rfl rfl) ?_
  refine wl_nil ?_
  refine sq_n ?_
  refine wc_cond rfl (fun hc1 => ?_) (fun hc1 => ?_)
  · skip
    have hc1 := bnot_t hc1
    have hc1 := of_decide_eq_false hc1
    refine wc_seq ?_
    refine wc_region ?_
    refine wv rfl (r_assign rfl) ?_
    refine wl_nil ?_
    refine sq_n ?_
    refine wc_ret ?_
    refine sq_ret ?_
    refine fin_ret [(.bool false)] ⟨rfl, trivial⟩ ?_
    exact ⟨vbool (m_ne_len (by assumption)), hM.rel⟩
  · skip
    have hc1 := bnot_f hc1
    have hc1 := of_decide_eq_true hc1
    refine wc_skip ?_
    refine sq_n ?_
    refine wc_seq ?_
    refine wc_seq ?_
    refine wc_region ?_
    refine wv rfl (r_move rfl) ?_
    refine wv rfl (r_lenF Try.underlying33 rfl (Deep.fl (hM.arg (.tail _ (.head _))))) ?_
    refine wv rfl (r_move rfl) ?_
    refine wl_nil ?_
    refine sq_n ?_
    refine wc_block ?_
    refine wc_loop1 (fun (k : Nat) => [(1, v_b), (2, (.func (.func 78) #[] #[])), (15, v_a), (16, (.int .i64 (a.length : Int))), (17, (.int .i64 (k : Int)))]) (fun (k : Nat) w' => St (b0 w) [] [([v_b], dDeep 1 fO iO b), ([v_a], dDeep 1 fO iO a)] w' ∧ (k ≤ a.length) ∧ ((a.take k).map OV.a = (b.take k).map OV.a)) (fun (k : Nat) => a.length - k) 0 ⟨rfl, rfl, rfl, rfl, rfl, trivial⟩ ⟨hM, (by omega), (rfl)⟩ ?_
    rintro k w2 ⟨hM, hf0_0, hf0_1⟩
    refine wc_seq ?_
    refine wc_region ?_
    refine wv rfl (r_lss rfl rfl) ?_
    refine wl_nil ?_
    refine sq_n ?_
    refine wc_seq ?_
    refine wc_cond rfl (fun hc3 => ?_) (fun hc3 => ?_)
    · skip
      have hc3 := of_decide_eq_true hc3
      refine wc_skip ?_
      refine sq_n ?_
      refine wc_seq ?_
      refine wc_block ?_
      refine wc_seq ?_
      refine wc_region ?_
      refine wv rfl (r_move rfl) ?_
      refine wv rfl (r_ixF Try.underlying33 sz41 rfl rfl (Deep.fl (hM.arg (.tail _ (.head _)))) ⟨by omega, by omega⟩) ?_
      have hM := hM.more (Deep.elem (hM.see (.tail _ (.head _))) (i := k) ov0 (by omega) (r := ([(a.getD k ov0).sv.v], dDeep 3 fP iP ((a.getD k ov0).l))) (.head _))
      refine wv rfl (r_ldF0 (i := k) ov0 Try.underlying41 rfl rfl (Deep.fl (hM.arg (.tail _ (.tail _ (.head _))))) (by omega) rfl) ?_
      refine wv rfl (r_assign rfl) ?_
      refine wv rfl (r_assign rfl) ?_
      refine wl_nil ?_
      refine sq_n ?_
      refine wc_seq ?_
      refine wc_region ?_
      refine wv rfl (r_move rfl) ?_
      refine wv rfl (r_move rfl) ?_
      refine wv rfl (r_ixF Try.underlying33 sz41 rfl rfl (Deep.fl (hM.arg (.tail _ (.head _)))) ⟨by omega, by omega⟩) ?_
      have hM := hM.more (Deep.elem (hM.see (.tail _ (.head _))) (i := k) ov0 (by omega) (r := ([(b.getD k ov0).sv.v], dDeep 3 fP iP ((b.getD k ov0).l))) (.head _))
      refine wv rfl (r_ldF0 (i := k) ov0 Try.underlying41 rfl rfl (Deep.fl (hM.arg (.tail _ (.tail _ (.head _))))) (by omega) rfl) ?_
      refine wv rfl (r_assign rfl) ?_
      refine wl_nil ?_
      refine sq_n ?_
      refine wc_seq ?_
      refine wc_region ?_
      refine wv rfl (r_move rfl) ?_
      refine wv rfl (r_move rfl) ?_
      refine wv rfl (r_move rfl) ?_
      refine w_callv (cap := []) rfl rfl rfl (ct_impl_OpSame _ _ ((a.getD k ov0).l) (hM.arg (.tail _ (.head _))) _ ((b.getD k ov0).l) (hM.arg (.head _))) ?_
      rintro _ w4 ⟨rfl, hR5⟩
      have hM := hM.call hR5
      refine wv rfl (r_not rfl) ?_
      refine wl_nil ?_
      refine sq_n ?_
      refine wc_cond rfl (fun hc6 => ?_) (fun hc6 => ?_)
      · skip
        have hc6 := bnot_t hc6
        have hc6 := of_decide_eq_false hc6
        refine wc_seq ?_
        refine wc_region ?_
        refine wv rfl (r_assign rfl) ?_
        refine wl_nil ?_
        refine sq_n ?_
        refine wc_ret ?_
        refine bk_ret ?_
        refine sq_ret ?_
        refine lp1_ret ?_
        refine bk_ret ?_
        refine sq_ret ?_
        refine fin_ret [(.bool false)] ⟨rfl, trivial⟩ ?_
        exact ⟨vbool (m_ne_get (k := k) ov0 (by assumption)), hM.rel⟩
      · skip
        have hc6 := bnot_f hc6
        have hc6 := of_decide_eq_true hc6
        refine wc_skip ?_
        refine bk_n ?_
        refine sq_n ?_
        refine wc_region ?_
        refine wv rfl (r_add rfl rfl ⟨by omega, by omega⟩) ?_
        refine wv rfl (r_move rfl) ?_
        refine wl_nil ?_
        have hM := hM.lessR
        have hM := hM.lessR
        exact lp_end1 (k + 1) (by omega) ⟨rfl, rfl, rfl, rfl, rfl, trivial⟩ ⟨hM, (by omega), (m_eq_step ov0 (by omega) (by omega) hf0_1 (by assumption))⟩
    · skip
      have hc3 := of_decide_eq_false hc3
      refine wc_exit ?_
      refine sq_exit ?_
      refine lp1_exit ?_
      refine bk_here ?_
      refine sq_n ?_
      refine wc_seq ?_
      refine wc_region ?_
      refine wv rfl (r_assign rfl) ?_
      refine wl_nil ?_
      refine sq_n ?_
      refine wc_ret ?_
      refine fin_ret [(.bool true)] ⟨rfl, trivial⟩ ?_
      exact ⟨vbool (m_eq_end (k := k) (by omega) (by omega) hf0_1), hM.rel⟩

theorem ct_impl_PastSame (w : World) (p : SV) (a_p_0 : Arg w [p.uv.v] (dDeep 1 fO iO p.ul)) (a_p_1 : Arg w [p.rv.v] (dDeep 1 fO iO p.rl)) (q : SV) (a_q_0 : Arg w [q.uv.v] (dDeep 1 fO iO q.ul)) (a_q_1 : Arg w [q.rv.v] (dDeep 1 fO iO q.rl)) : Ret Try.prog 27 [.agg #[(.int .i64 p.n), p.uv.v, p.rv.v], .agg #[(.int .i64 q.n), q.uv.v, q.rv.v]] w (fun u w' => u = .bool (decide (p.a = q.a)) ∧ Rel w w') := by
  refine enter Try.func27 rfl Try.ntmps27 (by kernel_rfl) rfl ?_
  have hM := St.init w
  have hM := hM.addA a_p_0
  have hl_p_0 := Fs.le (Deep.fl a_p_0)
  have hM := hM.addA a_p_1
  have hl_p_1 := Fs.le (Deep.fl a_p_1)
  have hM := hM.addA a_q_0
  have hl_q_0 := Fs.le (Deep.fl a_q_0)
  have hM := hM.addA a_q_1
  have hl_q_1 := Fs.le (Deep.fl a_q_1)
  refine wc_seq ?_
  refine wc_region ?_
  refine w_box rfl rfl hM ?_; intro b1 w2 hM
  refine w_box rfl rfl hM ?_; intro b3 w4 hM
  refine wv rfl (r_assign rfl) ?_
  refine wl_nil ?_
  refine sq_n ?_
  refine wc_seq ?_
  refine wc_region ?_
  refine wv rfl (r_fld Try.underlying35 rfl rfl sz3 rfl) ?_
  refine wv rfl (r_ldB Try.underlying3 rfl rfl (hM.at' (.tail _ (.head _))) rfl) ?_
  refine wv rfl (r_fld Try.underlying35 rfl rfl sz3 rfl) ?_
  refine wv rfl (r_ldB Try.underlying3 rfl rfl (hM.at' (.head _)) rfl) ?_
  refine wv rfl (r_eql rfl rfl) ?_
  refine wv rfl (r_move rfl) ?_
  refine wl_mid 6 (fun _ : Unit => [(16, (.bool ((decide (p.n = q.n)) && (decide (p.ul.map OV.a = q.ul.map OV.a))))), (2, (.pointer (some ⟨b1, 0, none⟩))), (3, (.pointer (some ⟨b3, 0, none⟩)))]) (fun _ w' => St (b0 w) [oBox b3 #[(.int .i64 q.n), q.uv.v, q.rv.v] 35, oBox b1 #[(.int .i64 p.n), p.uv.v, p.rv.v] 35] [([q.rv.v], dDeep 1 fO iO q.rl), ([q.uv.v], dDeep 1 fO iO q.ul), ([p.rv.v], dDeep 1 fO iO p.rl), ([p.uv.v], dDeep 1 fO iO p.ul)] w') ?_ ?_
  · rcases Bool.eq_false_or_eq_true (decide (p.n = q.n)) with hg5 | hg5
    · skip
      have hg5p := of_decide_eq_true hg5
      refine gv rfl hg5 rfl (r_fld Try.underlying35 rfl rfl sz33 rfl) ?_
      refine gv rfl hg5 rfl (r_ldB Try.underlying33 rfl rfl (hM.at' (.tail _ (.head _))) rfl) ?_
      refine gv rfl hg5 rfl (r_fld Try.underlying35 rfl rfl sz33 rfl) ?_
      refine gv rfl hg5 rfl (r_ldB Try.underlying33 rfl rfl (hM.at' (.head _)) rfl) ?_
      refine gc rfl hg5 rfl rfl (ct_EqualFunc_op _ _ p.ul (hM.arg (.tail _ (.tail _ (.tail _ (.head _))))) _ q.ul (hM.arg (.tail _ (.head _)))) ?_
      rintro _ w6 ⟨rfl, hR7⟩
      have hM := hM.call hR7
      refine wv rfl (p_t rfl hg5 rfl) ?_
      exact mid_nil () ⟨bcongr (and_t hg5), rfl, rfl, trivial⟩ hM
    · skip
      have hg5p := of_decide_eq_false hg5
      refine gs rfl (isB_no hg5) rfl ?_
      refine gs rfl (isB_no hg5) rfl ?_
      refine gs rfl (isB_no hg5) rfl ?_
      refine gs rfl (isB_no hg5) rfl ?_
      refine gs rfl (isB_no hg5) rfl ?_
      refine wv rfl (p_f rfl hg5 rfl) ?_
      exact mid_nil () ⟨bcongr (and_f hg5), rfl, rfl, trivial⟩ hM
  rintro _ w8 hM
  refine wv rfl (r_move rfl) ?_
  refine wl_mid 6 (fun _ : Unit => [(23, (.bool (((decide (p.n = q.n)) && (decide (p.ul.map OV.a = q.ul.map OV.a))) && (decide (p.rl.map OV.a = q.rl.map OV.a)))))]) (fun _ w' => St (b0 w) [oBox b3 #[(.int .i64 q.n), q.uv.v, q.rv.v] 35, oBox b1 #[(.int .i64 p.n), p.uv.v, p.rv.v] 35] [([q.rv.v], dDeep 1 fO iO q.rl), ([q.uv.v], dDeep 1 fO iO q.ul), ([p.rv.v], dDeep 1 fO iO p.rl), ([p.uv.v], dDeep 1 fO iO p.ul)] w') ?_ ?_
  · rcases Bool.eq_false_or_eq_true ((decide (p.n = q.n)) && (decide (p.ul.map OV.a = q.ul.map OV.a))) with hg9 | hg9
    · skip
      refine gv rfl hg9 rfl (r_fld Try.underlying35 rfl rfl sz33 rfl) ?_
      refine gv rfl hg9 rfl (r_ldB Try.underlying33 rfl rfl (hM.at' (.tail _ (.head _))) rfl) ?_
      refine gv rfl hg9 rfl (r_fld Try.underlying35 rfl rfl sz33 rfl) ?_
      refine gv rfl hg9 rfl (r_ldB Try.underlying33 rfl rfl (hM.at' (.head _)) rfl) ?_
      refine gc rfl hg9 rfl rfl (ct_EqualFunc_op _ _ p.rl (hM.arg (.tail _ (.tail _ (.head _)))) _ q.rl (hM.arg (.head _))) ?_
      rintro _ w10 ⟨rfl, hR11⟩
      have hM := hM.call hR11
      refine wv rfl (p_t rfl hg9 rfl) ?_
      exact mid_nil () ⟨bcongr (and_t hg9), trivial⟩ hM
    · skip
      refine gs rfl (isB_no hg9) rfl ?_
      refine gs rfl (isB_no hg9) rfl ?_
      refine gs rfl (isB_no hg9) rfl ?_
      refine gs rfl (isB_no hg9) rfl ?_
      refine gs rfl (isB_no hg9) rfl ?_
      refine wv rfl (p_f rfl hg9 rfl) ?_
      exact mid_nil () ⟨bcongr (and_f hg9), trivial⟩ hM
  rintro _ w12 hM
  refine wv rfl (r_assign rfl) ?_
  refine wl_nil ?_
  refine sq_n ?_
  refine wc_ret ?_
  refine fin_ret [(.bool (((decide (p.n = q.n)) && (decide (p.ul.map OV.a = q.ul.map OV.a))) && (decide (p.rl.map OV.a = q.rl.map OV.a))))] ⟨rfl, trivial⟩ ?_
  exact ⟨vbool (stoEq_and p q), hM.rel⟩

theorem ct_spec_PastSame (w : World) (p : SV) (a_p_0 : Arg w [p.uv.v] (dDeep 1 fO iO p.ul)) (a_p_1 : Arg w [p.rv.v] (dDeep 1 fO iO p.rl)) (q : SV) (a_q_0 : Arg w [q.uv.v] (dDeep 1 fO iO q.ul)) (a_q_1 : Arg w [q.rv.v] (dDeep 1 fO iO q.rl)) : Ret Try.prog 25 [.agg #[(.int .i64 p.n), p.uv.v, p.rv.v], .agg #[(.int .i64 q.n), q.uv.v, q.rv.v]] w (fun u w' => u = .bool (decide (p.a = q.a)) ∧ Rel w w') := by
  refine enter Try.func25 rfl Try.ntmps25 (by kernel_rfl) rfl ?_
  have hM := St.init w
  have hM := hM.addA a_p_0
  have hl_p_0 := Fs.le (Deep.fl a_p_0)
  have hM := hM.addA a_p_1
  have hl_p_1 := Fs.le (Deep.fl a_p_1)
  have hM := hM.addA a_q_0
  have hl_q_0 := Fs.le (Deep.fl a_q_0)
  have hM := hM.addA a_q_1
  have hl_q_1 := Fs.le (Deep.fl a_q_1)
  refine wc_seq ?_
  refine wc_region ?_
  refine w_box rfl rfl hM ?_; intro b1 w2 hM
  refine w_box rfl rfl hM ?_; intro b3 w4 hM
  refine wv rfl (r_assign rfl) ?_
  refine wl_nil ?_
  refine sq_n ?_
  refine wc_seq ?_
  refine wc_seq ?_
  refine wc_region ?_
  refine wv rfl (r_fld Try.underlying35 rfl rfl sz3 rfl) ?_
  refine wv rfl (r_ldB Try.underlying3 rfl rfl (hM.at' (.tail _ (.head _))) rfl) ?_
  refine wv rfl (r_fld Try.underlying35 rfl rfl sz3 rfl) ?_
  refine wv rfl (r_ldB Try.underlying3 rfl rfl (hM.at' (.head _)) rfl) ?_
  refine wv rfl (r_neq rfl rfl) ?_
  refine wv rfl (r_move rfl) ?_
  refine wl_mid 8 (fun _ : Unit => [(22, (.bool ((!(decide (p.n = q.n))) || (!(decide ((p.ul.length : Int) = (q.ul.length : Int))))))), (2, (.pointer (some ⟨b1, 0, none⟩))), (3, (.pointer (some ⟨b3, 0, none⟩)))]) (fun _ w' => St (b0 w) [oBox b3 #[(.int .i64 q.n), q.uv.v, q.rv.v] 35, oBox b1 #[(.int .i64 p.n), p.uv.v, p.rv.v] 35] [([q.rv.v], dDeep 1 fO iO q.rl), ([q.uv.v], dDeep 1 fO iO q.ul), ([p.rv.v], dDeep 1 fO iO p.rl), ([p.uv.v], dDeep 1 fO iO p.ul)] w') ?_ ?_
  · rcases Bool.eq_false_or_eq_true (!(decide (p.n = q.n))) with hg5 | hg5
    · skip
      refine gs rfl (isB_no hg5) rfl ?_
      refine gs rfl (isB_no hg5) rfl ?_
      refine gs rfl (isB_no hg5) rfl ?_
      refine gs rfl (isB_no hg5) rfl ?_
      refine gs rfl (isB_no hg5) rfl ?_
      refine gs rfl (isB_no hg5) rfl ?_
      refine gs rfl (isB_no hg5) rfl ?_
      refine wv rfl (p_t rfl hg5 rfl) ?_
      exact mid_nil () ⟨bcongr (or_t hg5), rfl, rfl, trivial⟩ hM
    · skip
      refine gv rfl hg5 rfl (r_fld Try.underlying35 rfl rfl sz33 rfl) ?_
      refine gv rfl hg5 rfl (r_ldB Try.underlying33 rfl rfl (hM.at' (.tail _ (.head _))) rfl) ?_
      refine gv rfl hg5 rfl (r_lenF Try.underlying33 rfl (Deep.fl (hM.arg (.tail _ (.tail _ (.tail _ (.head _))))))) ?_
      refine gv rfl hg5 rfl (r_fld Try.underlying35 rfl rfl sz33 rfl) ?_
      refine gv rfl hg5 rfl (r_ldB Try.underlying33 rfl rfl (hM.at' (.head _)) rfl) ?_
      refine gv rfl hg5 rfl (r_lenF Try.underlying33 rfl (Deep.fl (hM.arg (.tail _ (.head _))))) ?_
      refine gv rfl hg5 rfl (r_neq rfl rfl) ?_
      refine wv rfl (p_f rfl hg5 rfl) ?_
      exact mid_nil () ⟨bcongr (or_f hg5), rfl, rfl, trivial⟩ hM
  rintro _ w6 hM
  refine wv rfl (r_move rfl) ?_
  refine wl_mid 8 (fun _ : Unit => [(31, (.bool (((!(decide (p.n = q.n))) || (!(decide ((p.ul.length : Int) = (q.ul.length : Int))))) || (!(decide ((p.rl.length : Int) = (q.rl.length : Int))))))), (2, (.pointer (some ⟨b1, 0, none⟩))), (3, (.pointer (some ⟨b3, 0, none⟩)))]) (fun _ w' => St (b0 w) [oBox b3 #[(.int .i64 q.n), q.uv.v, q.rv.v] 35, oBox b1 #[(.int .i64 p.n), p.uv.v, p.rv.v] 35] [([q.rv.v], dDeep 1 fO iO q.rl), ([q.uv.v], dDeep 1 fO iO q.ul), ([p.rv.v], dDeep 1 fO iO p.rl), ([p.uv.v], dDeep 1 fO iO p.ul)] w') ?_ ?_
  · rcases Bool.eq_false_or_eq_true ((!(decide (p.n = q.n))) || (!(decide ((p.ul.length : Int) = (q.ul.length : Int))))) with hg7 | hg7
    · skip
      refine gs rfl (isB_no hg7) rfl ?_
      refine gs rfl (isB_no hg7) rfl ?_
      refine gs rfl (isB_no hg7) rfl ?_
      refine gs rfl (isB_no hg7) rfl ?_
      refine gs rfl (isB_no hg7) rfl ?_
      refine gs rfl (isB_no hg7) rfl ?_
      refine gs rfl (isB_no hg7) rfl ?_
      refine wv rfl (p_t rfl hg7 rfl) ?_
      exact mid_nil () ⟨bcongr (or_t hg7), rfl, rfl, trivial⟩ hM
    · skip
      refine gv rfl hg7 rfl (r_fld Try.underlying35 rfl rfl sz33 rfl) ?_
      refine gv rfl hg7 rfl (r_ldB Try.underlying33 rfl rfl (hM.at' (.tail _ (.head _))) rfl) ?_
      refine gv rfl hg7 rfl (r_lenF Try.underlying33 rfl (Deep.fl (hM.arg (.tail _ (.tail _ (.head _)))))) ?_
      refine gv rfl hg7 rfl (r_fld Try.underlying35 rfl rfl sz33 rfl) ?_
      refine gv rfl hg7 rfl (r_ldB Try.underlying33 rfl rfl (hM.at' (.head _)) rfl) ?_
      refine gv rfl hg7 rfl (r_lenF Try.underlying33 rfl (Deep.fl (hM.arg (.head _)))) ?_
      refine gv rfl hg7 rfl (r_neq rfl rfl) ?_
      refine wv rfl (p_f rfl hg7 rfl) ?_
      exact mid_nil () ⟨bcongr (or_f hg7), rfl, rfl, trivial⟩ hM
  rintro _ w8 hM
  refine wl_nil ?_
  refine sq_n ?_
  refine wc_cond rfl (fun hc9 => ?_) (fun hc9 => ?_)
  · skip
    have hno := ps_no (p := p) (q := q) (by have hq := hc9; simp at hq; omega)
    refine wc_seq ?_
    refine wc_region ?_
    refine wv rfl (r_assign rfl) ?_
    refine wl_nil ?_
    refine sq_n ?_
    refine wc_ret ?_
    refine sq_ret ?_
    refine fin_ret [(.bool false)] ⟨rfl, trivial⟩ ?_
    exact ⟨vbool (hno), hM.rel⟩
  · skip
    obtain ⟨hc9a, hc9b⟩ := (Bool.or_eq_false_iff).1 hc9
    obtain ⟨hc9aa, hc9ab⟩ := (Bool.or_eq_false_iff).1 hc9a
    have hc9aa := bnot_f hc9aa
    have hc9aa := of_decide_eq_true hc9aa
    have hc9ab := bnot_f hc9ab
    have hc9ab := of_decide_eq_true hc9ab
    have hc9b := bnot_f hc9b
    have hc9b := of_decide_eq_true hc9b
    have hab := ps_len (p := p) (q := q) (by have hq := hc9; simp at hq; omega)
    obtain ⟨hab1, hab2, hab3⟩ := hab
    refine wc_skip ?_
    refine sq_n ?_
    refine wc_seq ?_
    refine wc_seq ?_
    refine wc_region ?_
    refine wv rfl (r_fld Try.underlying35 rfl rfl sz33 rfl) ?_
    refine wv rfl (r_ldB Try.underlying33 rfl rfl (hM.at' (.tail _ (.head _))) rfl) ?_
    refine wv rfl (r_lenF Try.underlying33 rfl (Deep.fl (hM.arg (.tail _ (.tail _ (.tail _ (.head _))))))) ?_
    refine wv rfl (r_move rfl) ?_
    refine wl_nil ?_
    refine sq_n ?_
    refine wc_block ?_
    refine wc_loop1 (fun (k : Nat) => [(2, (.pointer (some ⟨b1, 0, none⟩))), (3, (.pointer (some ⟨b3, 0, none⟩))), (33, p.uv.v), (34, (.int .i64 (p.ul.length : Int))), (35, (.int .i64 (k : Int)))]) (fun (k : Nat) w' => St (b0 w) [oBox b3 #[(.int .i64 q.n), q.uv.v, q.rv.v] 35, oBox b1 #[(.int .i64 p.n), p.uv.v, p.rv.v] 35] [([q.rv.v], dDeep 1 fO iO q.rl), ([q.uv.v], dDeep 1 fO iO q.ul), ([p.rv.v], dDeep 1 fO iO p.rl), ([p.uv.v], dDeep 1 fO iO p.ul)] w' ∧ (k ≤ p.ul.length) ∧ ((p.ul.take k).map OV.a = (q.ul.take k).map OV.a)) (fun (k : Nat) => p.ul.length - k) 0 ⟨rfl, rfl, rfl, rfl, rfl, trivial⟩ ⟨hM, (by omega), (rfl)⟩ ?_
    rintro k w10 ⟨hM, hf0_0, hf0_1⟩
    refine wc_seq ?_
    refine wc_region ?_
    refine wv rfl (r_lss rfl rfl) ?_
    refine wl_nil ?_
    refine sq_n ?_
    refine wc_seq ?_
    refine wc_cond rfl (fun hc11 => ?_) (fun hc11 => ?_)
    · skip
      have hc11 := of_decide_eq_true hc11
      refine wc_skip ?_
      refine sq_n ?_
      refine wc_seq ?_
      refine wc_block ?_
      refine wc_seq ?_
      refine wc_region ?_
      refine wv rfl (r_move rfl) ?_
      refine wv rfl (r_ixF Try.underlying33 sz41 rfl rfl (Deep.fl (hM.arg (.tail _ (.tail _ (.tail _ (.head _)))))) ⟨by omega, by omega⟩) ?_
      have hM := hM.more (Deep.elem (hM.see (.tail _ (.tail _ (.tail _ (.head _))))) (i := k) ov0 (by omega) (r := ([(p.ul.getD k ov0).sv.v], dDeep 3 fP iP ((p.ul.getD k ov0).l))) (.head _))
      refine wv rfl (r_ldF0 (i := k) ov0 Try.underlying41 rfl rfl (Deep.fl (hM.arg (.tail _ (.tail _ (.tail _ (.tail _ (.head _))))))) (by omega) rfl) ?_
      refine wv rfl (r_assign rfl) ?_
      refine wv rfl (r_assign rfl) ?_
      refine wl_nil ?_
      refine sq_n ?_
      refine wc_seq ?_
      refine wc_region ?_
      refine wv rfl (r_move rfl) ?_
      refine wv rfl (r_fld Try.underlying35 rfl rfl sz33 rfl) ?_
      refine wv rfl (r_ldB Try.underlying33 rfl rfl (hM.at' (.head _)) rfl) ?_
      refine wv rfl (r_move rfl) ?_
      refine wv rfl (r_ixF Try.underlying33 sz41 rfl rfl (Deep.fl (hM.arg (.tail _ (.tail _ (.head _))))) ⟨by omega, by omega⟩) ?_
      have hM := hM.more (Deep.elem (hM.see (.tail _ (.tail _ (.head _)))) (i := k) ov0 (by omega) (r := ([(q.ul.getD k ov0).sv.v], dDeep 3 fP iP ((q.ul.getD k ov0).l))) (.head _))
      refine wv rfl (r_ldF0 (i := k) ov0 Try.underlying41 rfl rfl (Deep.fl (hM.arg (.tail _ (.tail _ (.tail _ (.head _)))))) (by omega) rfl) ?_
      refine w_call rfl rfl (ct_spec_OpSame _ _ ((p.ul.getD k ov0).l) (hM.arg (.tail _ (.head _))) _ ((q.ul.getD k ov0).l) (hM.arg (.head _))) ?_
      rintro _ w12 ⟨rfl, hR13⟩
      have hM := hM.call hR13
      refine wv rfl (r_not rfl) ?_
      refine wl_nil ?_
      refine sq_n ?_
      refine wc_cond rfl (fun hc14 => ?_) (fun hc14 => ?_)
      · skip
        have hc14 := bnot_t hc14
        have hc14 := of_decide_eq_false hc14
        refine wc_seq ?_
        refine wc_region ?_
        refine wv rfl (r_assign rfl) ?_
        refine wl_nil ?_
        refine sq_n ?_
        refine wc_ret ?_
        refine bk_ret ?_
        refine sq_ret ?_
        refine lp1_ret ?_
        refine bk_ret ?_
        refine sq_ret ?_
        refine fin_ret [(.bool false)] ⟨rfl, trivial⟩ ?_
        exact ⟨vbool ((decide_eq_false fun e => absurd (m_ne_get (a := p.ul) (b := q.ul) (f := OV.a) ov0 (by assumption)) (by rw [show p.ul.map OV.a = q.ul.map OV.a from congrArg Sto.u e]; simp)).symm), hM.rel⟩
      · skip
        have hc14 := bnot_f hc14
        have hc14 := of_decide_eq_true hc14
        refine wc_skip ?_
        refine bk_n ?_
        refine sq_n ?_
        refine wc_region ?_
        refine wv rfl (r_add rfl rfl ⟨by omega, by omega⟩) ?_
        refine wv rfl (r_move rfl) ?_
        refine wl_nil ?_
        have hM := hM.swap
        have hM := hM.swap
        have hM := hM.lessR
        have hM := hM.lessR
        exact lp_end1 (k + 1) (by omega) ⟨rfl, rfl, rfl, rfl, rfl, trivial⟩ ⟨hM, (by omega), (m_eq_step ov0 (by omega) (by omega) hf0_1 (by assumption))⟩
    · skip
      have hc11 := of_decide_eq_false hc11
      refine wc_exit ?_
      refine sq_exit ?_
      refine lp1_exit ?_
      refine bk_here ?_
      refine sq_n ?_
      refine wc_seq ?_
      refine wc_seq ?_
      refine wc_region ?_
      refine wv rfl (r_fld Try.underlying35 rfl rfl sz33 rfl) ?_
      refine wv rfl (r_ldB Try.underlying33 rfl rfl (hM.at' (.tail _ (.head _))) rfl) ?_
      refine wv rfl (r_lenF Try.underlying33 rfl (Deep.fl (hM.arg (.tail _ (.tail _ (.head _)))))) ?_
      refine wv rfl (r_move rfl) ?_
      refine wl_nil ?_
      refine sq_n ?_
      refine wc_block ?_
      refine wc_loop1 (fun (k : Nat) => [(3, (.pointer (some ⟨b3, 0, none⟩))), (50, p.rv.v), (51, (.int .i64 (p.rl.length : Int))), (52, (.int .i64 (k : Int)))]) (fun (k : Nat) w' => St (b0 w) [oBox b3 #[(.int .i64 q.n), q.uv.v, q.rv.v] 35, oBox b1 #[(.int .i64 p.n), p.uv.v, p.rv.v] 35] [([q.rv.v], dDeep 1 fO iO q.rl), ([q.uv.v], dDeep 1 fO iO q.ul), ([p.rv.v], dDeep 1 fO iO p.rl), ([p.uv.v], dDeep 1 fO iO p.ul)] w' ∧ (k ≤ p.rl.length) ∧ ((p.rl.take k).map OV.a = (q.rl.take k).map OV.a)) (fun (k : Nat) => p.rl.length - k) 0 ⟨rfl, rfl, rfl, rfl, trivial⟩ ⟨hM, (by omega), (rfl)⟩ ?_
      rintro k w15 ⟨hM, hf1_0, hf1_1⟩
      refine wc_seq ?_
      refine wc_region ?_
      refine wv rfl (r_lss rfl rfl) ?_
      refine wl_nil ?_
      refine sq_n ?_
      refine wc_seq ?_
      refine wc_cond rfl (fun hc16 => ?_) (fun hc16 => ?_)
      · skip
        have hc16 := of_decide_eq_true hc16
        refine wc_skip ?_
        refine sq_n ?_
        refine wc_seq ?_
        refine wc_block ?_
        refine wc_seq ?_
        refine wc_region ?_
        refine wv rfl (r_move rfl) ?_
        refine wv rfl (r_ixF Try.underlying33 sz41 rfl rfl (Deep.fl (hM.arg (.tail _ (.tail _ (.head _))))) ⟨by omega, by omega⟩) ?_
        have hM := hM.more (Deep.elem (hM.see (.tail _ (.tail _ (.head _)))) (i := k) ov0 (by omega) (r := ([(p.rl.getD k ov0).sv.v], dDeep 3 fP iP ((p.rl.getD k ov0).l))) (.head _))
        refine wv rfl (r_ldF0 (i := k) ov0 Try.underlying41 rfl rfl (Deep.fl (hM.arg (.tail _ (.tail _ (.tail _ (.head _)))))) (by omega) rfl) ?_
        refine wv rfl (r_assign rfl) ?_
        refine wv rfl (r_assign rfl) ?_
        refine wl_nil ?_
        refine sq_n ?_
        refine wc_seq ?_
        refine wc_region ?_
        refine wv rfl (r_move rfl) ?_
        refine wv rfl (r_fld Try.underlying35 rfl rfl sz33 rfl) ?_
        refine wv rfl (r_ldB Try.underlying33 rfl rfl (hM.at' (.head _)) rfl) ?_
        refine wv rfl (r_move rfl) ?_
        refine wv rfl (r_ixF Try.underlying33 sz41 rfl rfl (Deep.fl (hM.arg (.tail _ (.head _)))) ⟨by omega, by omega⟩) ?_
        have hM := hM.more (Deep.elem (hM.see (.tail _ (.head _))) (i := k) ov0 (by omega) (r := ([(q.rl.getD k ov0).sv.v], dDeep 3 fP iP ((q.rl.getD k ov0).l))) (.head _))
        refine wv rfl (r_ldF0 (i := k) ov0 Try.underlying41 rfl rfl (Deep.fl (hM.arg (.tail _ (.tail _ (.head _))))) (by omega) rfl) ?_
        refine w_call rfl rfl (ct_spec_OpSame _ _ ((p.rl.getD k ov0).l) (hM.arg (.tail _ (.head _))) _ ((q.rl.getD k ov0).l) (hM.arg (.head _))) ?_
        rintro _ w17 ⟨rfl, hR18⟩
        have hM := hM.call hR18
        refine wv rfl (r_not rfl) ?_
        refine wl_nil ?_
        refine sq_n ?_
        refine wc_cond rfl (fun hc19 => ?_) (fun hc19 => ?_)
        · skip
          have hc19 := bnot_t hc19
          have hc19 := of_decide_eq_false hc19
          refine wc_seq ?_
          refine wc_region ?_
          refine wv rfl (r_assign rfl) ?_
          refine wl_nil ?_
          refine sq_n ?_
          refine wc_ret ?_
          refine bk_ret ?_
          refine sq_ret ?_
          refine lp1_ret ?_
          refine bk_ret ?_
          refine sq_ret ?_
          refine fin_ret [(.bool false)] ⟨rfl, trivial⟩ ?_
          exact ⟨vbool ((decide_eq_false fun e => absurd (m_ne_get (a := p.rl) (b := q.rl) (f := OV.a) ov0 (by assumption)) (by rw [show p.rl.map OV.a = q.rl.map OV.a from congrArg Sto.r e]; simp)).symm), hM.rel⟩
        · skip
          have hc19 := bnot_f hc19
          have hc19 := of_decide_eq_true hc19
          refine wc_skip ?_
          refine bk_n ?_
          refine sq_n ?_
          refine wc_region ?_
          refine wv rfl (r_add rfl rfl ⟨by omega, by omega⟩) ?_
          refine wv rfl (r_move rfl) ?_
          refine wl_nil ?_
          have hM := hM.swap
          have hM := hM.swap
          have hM := hM.lessR
          have hM := hM.lessR
          exact lp_end1 (k + 1) (by omega) ⟨rfl, rfl, rfl, rfl, trivial⟩ ⟨hM, (by omega), (m_eq_step ov0 (by omega) (by omega) hf1_1 (by assumption))⟩
      · skip
        have hc16 := of_decide_eq_false hc16
        refine wc_exit ?_
        refine sq_exit ?_
        refine lp1_exit ?_
        refine bk_here ?_
        refine sq_n ?_
        refine wc_seq ?_
        refine wc_region ?_
        refine wv rfl (r_assign rfl) ?_
        refine wl_nil ?_
        refine sq_n ?_
        refine wc_ret ?_
        have hu := hf0_1
        rw [m_full (by omega), m_full (by omega)] at hu
        have hr := hf1_1
        rw [m_full (by omega), m_full (by omega)] at hr
        refine fin_ret [(.bool true)] ⟨rfl, trivial⟩ ?_
        exact ⟨vbool (stoEq_y hab1 hu hr), hM.rel⟩

theorem ct_laws_szPartSS (w : World) (v_a : Sv) (a : List OV) (left : Int) (a_a : ArgX (oStar []).fp w [v_a.v] (dDeep 1 fO iO a)) (hp0 : 0 ≤ left ∧ left ≤ 1048576) : Ret Try.prog 74 [v_a.v, .int .i64 left] w (fun u w' => ∃ y : Int, u = .int .i64 y ∧ Gives (oStar []).fp w [] w' ∧ (y < 0 ∨ (0 ≤ y ∧ y ≤ left ∧ okO left a))) := by
  refine enter Try.func74 rfl Try.ntmps74 (by kernel_rfl) rfl ?_
  have hM := St.enter0 w
  have hM := hM.addE (cs := [v_a.v]) (d := dDeep 1 fO iO a) a_a
  have hl_a := Fs.le (Deep.fl a_a)
  refine wc_seq ?_
  refine wc_region ?_
  refine wv rfl (r_assign rfl) ?_
  refine wl_nil ?_
  refine sq_n ?_
  refine wc_seq ?_
  refine wc_region ?_
  refine wv rfl (r_move rfl) ?_
  refine wv rfl (r_move rfl) ?_
  refine wv rfl (r_lenF Try.underlying28 rfl (Deep.fl (hM.arg (.head _)))) ?_
  refine wv rfl (r_sub rfl rfl ⟨by omega, by omega⟩) ?_
  refine wv rfl (r_assign rfl) ?_
  refine wl_nil ?_
  refine sq_n ?_
  refine wc_seq ?_
  refine wc_seq ?_
  refine wc_region ?_
  refine wv rfl (r_move rfl) ?_
  refine wv rfl (r_lss rfl rfl) ?_
  refine wl_nil ?_
  refine sq_n ?_
  refine wc_cond rfl (fun hc1 => ?_) (fun hc1 => ?_)
  · skip
    have hc1 := of_decide_eq_true hc1
    refine wc_seq ?_
    refine wc_region ?_
    refine wv rfl (r_assign rfl) ?_
    refine wl_nil ?_
    refine sq_n ?_
    refine wc_ret ?_
    refine sq_ret ?_
    refine fin_ret [(.int .i64 (-1))] ⟨rfl, trivial⟩ ?_
    exact ⟨-1, rfl, St.gives (O := []) hM, (by omega)⟩
  · skip
    have hc1 := of_decide_eq_false hc1
    refine wc_skip ?_
    refine sq_n ?_
    refine wc_seq ?_
    refine wc_seq ?_
    refine wc_region ?_
    refine wv rfl (r_assign rfl) ?_
    refine wl_nil ?_
    refine sq_n ?_
    refine wc_block ?_
    refine wc_loop2 (fun (k : Nat) (y : Int) => [(0, v_a.v), (1, (.int .i64 y)), (5, (.int .i64 (k : Int)))]) (fun (k : Nat) (y : Int) w' => St ⟨w, (oStar []).fp⟩ [] [([v_a.v], dDeep 1 fO iO a)] w' ∧ (k ≤ a.length) ∧ (0 ≤ y ∧ y ≤ left) ∧ (∀ o ∈ a.take k, okP left o.l)) (fun (k : Nat) (y : Int) => a.length - k) 0 (left - (a.length : Int)) ⟨rfl, rfl, rfl, trivial⟩ ⟨hM, (by omega), (by omega), (by simp)⟩ ?_
    rintro k y w2 ⟨hM, hf0_0, hf0_1, hf0_2⟩
    refine wc_seq ?_
    refine wc_seq ?_
    refine wc_region ?_
    refine wv rfl (r_move rfl) ?_
    refine wv rfl (r_move rfl) ?_
    refine wv rfl (r_lenF Try.underlying28 rfl (Deep.fl (hM.arg (.head _)))) ?_
    refine wv rfl (r_lss rfl rfl) ?_
    refine wl_nil ?_
    refine sq_n ?_
    refine wc_cond rfl (fun hc3 => ?_) (fun hc3 => ?_)
    · skip
      have hc3 := of_decide_eq_true hc3
      refine wc_skip ?_
      refine sq_n ?_
      refine wc_seq ?_
      refine wc_block ?_
      refine wc_seq ?_
      refine wc_region ?_
      refine wv rfl (r_move rfl) ?_
      refine wv rfl (r_move rfl) ?_
      refine wv rfl (r_ixF Try.underlying28 sz38 rfl rfl (Deep.fl (hM.arg (.head _))) ⟨by omega, by omega⟩) ?_
      have hM := hM.more (Deep.elem (hM.see (.head _)) (i := k) ov0 (by omega) (r := ([(a.getD k ov0).sv.v], dDeep 3 fP iP ((a.getD k ov0).l))) (.head _))
      refine wv rfl (r_ldF0 (i := k) ov0 Try.underlying38 rfl rfl (Deep.fl (hM.arg (.tail _ (.head _)))) (by omega) rfl) ?_
      refine wv rfl (r_move rfl) ?_
      refine w_call rfl rfl (ct_laws_szPartS w2 _ ((a.getD k ov0).l) y (St.argx (L := []) hM (.head _)) (by first | omega | (simp; done) | (simp; omega))) ?_
      rintro _ w5 ⟨yx4, rfl, hG6, hf7⟩
      have hM := St.got (L := []) hM hG6
      simp only [List.cons_append, List.nil_append] at hM
      have hszf := hf7
      refine wv rfl (r_assign rfl) ?_
      refine wl_nil ?_
      refine sq_n ?_
      refine wc_seq ?_
      refine wc_region ?_
      refine wv rfl (r_move rfl) ?_
      refine wv rfl (r_lss rfl rfl) ?_
      refine wl_nil ?_
      refine sq_n ?_
      refine wc_cond rfl (fun hc8 => ?_) (fun hc8 => ?_)
      · skip
        have hc8 := of_decide_eq_true hc8
        refine wc_seq ?_
        refine wc_region ?_
        refine wv rfl (r_assign rfl) ?_
        refine wl_nil ?_
        refine sq_n ?_
        refine wc_ret ?_
        refine bk_ret ?_
        refine sq_ret ?_
        refine lp2_ret ?_
        refine bk_ret ?_
        refine sq_ret ?_
        refine fin_ret [(.int .i64 (-1))] ⟨rfl, trivial⟩ ?_
        exact ⟨-1, rfl, St.gives (O := []) hM, (by omega)⟩
      · skip
        have hc8 := of_decide_eq_false hc8
        have hok := (okP_of hszf hc8).mono (n := left) (by omega)
        refine wc_skip ?_
        refine bk_n ?_
        refine sq_n ?_
        refine wc_region ?_
        refine wv rfl (r_move rfl) ?_
        refine wv rfl (r_add rfl rfl ⟨by omega, by omega⟩) ?_
        refine wv rfl (r_assign rfl) ?_
        refine wl_nil ?_
        have hM := hM.lessR
        exact lp_end2 (k + 1) yx4 (by omega) ⟨rfl, rfl, rfl, trivial⟩ ⟨hM, (by omega), (by omega), (all_step ov0 (by omega) hf0_2 hok)⟩
    · skip
      have hc3 := of_decide_eq_false hc3
      refine wc_exit ?_
      refine sq_exit ?_
      refine lp2_exit ?_
      refine bk_here ?_
      refine sq_n ?_
      refine wc_seq ?_
      refine wc_region ?_
      refine wv rfl (r_move rfl) ?_
      refine wv rfl (r_assign rfl) ?_
      refine wl_nil ?_
      refine sq_n ?_
      refine wc_ret ?_
      refine fin_ret [(.int .i64 y)] ⟨rfl, trivial⟩ ?_
      exact ⟨y, rfl, St.gives (O := []) hM, (.inr ⟨by omega, by omega, by omega, all_full (by omega) hf0_2⟩)⟩

theorem ct_laws_szStory (w : World) (a : SV) (left : Int) (a_a_0 : ArgX (oStar []).fp w [a.uv.v] (dDeep 1 fO iO a.ul)) (a_a_1 : ArgX (oStar []).fp w [a.rv.v] (dDeep 1 fO iO a.rl)) (hp0 : 0 ≤ left ∧ left ≤ 1048576) : Ret Try.prog 24 [.agg #[(.int .i64 a.n), a.uv.v, a.rv.v], .int .i64 left] w (fun u w' => ∃ y : Int, u = .int .i64 y ∧ Gives (oStar []).fp w [] w' ∧ (y < 0 ∨ (0 ≤ y ∧ y ≤ left ∧ okO left a.ul ∧ okO left a.rl))) := by
  refine enter Try.func24 rfl Try.ntmps24 (by kernel_rfl) rfl ?_
  have hM := St.enter0 w
  have hM := hM.addE (cs := [a.uv.v]) (d := dDeep 1 fO iO a.ul) a_a_0
  have hl_a_0 := Fs.le (Deep.fl a_a_0)
  have hM := hM.addE (cs := [a.rv.v]) (d := dDeep 1 fO iO a.rl) a_a_1
  have hl_a_1 := Fs.le (Deep.fl a_a_1)
  refine wc_seq ?_
  refine wc_region ?_
  refine w_box rfl rfl hM ?_; intro b1 w2 hM
  refine wv rfl (r_assign rfl) ?_
  refine wl_nil ?_
  refine sq_n ?_
  refine wc_seq ?_
  refine wc_region ?_
  refine wv rfl (r_fld Try.underlying30 rfl rfl sz28 rfl) ?_
  refine wv rfl (r_ldB Try.underlying28 rfl rfl (hM.at' (.head _)) rfl) ?_
  refine wv rfl (r_move rfl) ?_
  refine w_call rfl rfl (ct_laws_szPartSS w2 _ a.ul left (St.argx (L := []) hM (.tail _ (.head _))) (by first | omega | (simp; done) | (simp; omega))) ?_
  rintro _ w4 ⟨yx3, rfl, hG5, hf6⟩
  have hM := St.got (L := []) hM hG5
  simp only [List.cons_append, List.nil_append] at hM
  have hszf := hf6
  refine wv rfl (r_assign rfl) ?_
  refine wl_nil ?_
  refine sq_n ?_
  refine wc_seq ?_
  refine wc_seq ?_
  refine wc_region ?_
  refine wv rfl (r_move rfl) ?_
  refine wv rfl (r_lss rfl rfl) ?_
  refine wl_nil ?_
  refine sq_n ?_
  refine wc_cond rfl (fun hc7 => ?_) (fun hc7 => ?_)
  · skip
    have hc7 := of_decide_eq_true hc7
    refine wc_seq ?_
    refine wc_region ?_
    refine wv rfl (r_assign rfl) ?_
    refine wl_nil ?_
    refine sq_n ?_
    refine wc_ret ?_
    refine sq_ret ?_
    refine fin_ret [(.int .i64 (-1))] ⟨rfl, trivial⟩ ?_
    exact ⟨-1, rfl, St.gives (O := []) hM, (by omega)⟩
  · skip
    have hc7 := of_decide_eq_false hc7
    have hs1 := hszf.resolve_left hc7
    refine wc_skip ?_
    refine sq_n ?_
    refine wc_seq ?_
    refine wc_region ?_
    refine wv rfl (r_fld Try.underlying30 rfl rfl sz28 rfl) ?_
    refine wv rfl (r_ldB Try.underlying28 rfl rfl (hM.at' (.head _)) rfl) ?_
    refine wv rfl (r_move rfl) ?_
    refine w_call rfl rfl (ct_laws_szPartSS w4 _ a.rl yx3 (St.argx (L := []) hM (.head _)) (by first | omega | (simp; done) | (simp; omega))) ?_
    rintro _ w9 ⟨yx8, rfl, hG10, hf11⟩
    have hM := St.got (L := []) hM hG10
    simp only [List.cons_append, List.nil_append] at hM
    have hszf := hf11
    refine wv rfl (r_assign rfl) ?_
    refine wl_nil ?_
    refine sq_n ?_
    refine wc_seq ?_
    refine wc_seq ?_
    refine wc_region ?_
    refine wv rfl (r_move rfl) ?_
    refine wv rfl (r_lss rfl rfl) ?_
    refine wl_nil ?_
    refine sq_n ?_
    refine wc_cond rfl (fun hc12 => ?_) (fun hc12 => ?_)
    · skip
      have hc12 := of_decide_eq_true hc12
      refine wc_seq ?_
      refine wc_region ?_
      refine wv rfl (r_assign rfl) ?_
      refine wl_nil ?_
      refine sq_n ?_
      refine wc_ret ?_
      refine sq_ret ?_
      refine fin_ret [(.int .i64 (-1))] ⟨rfl, trivial⟩ ?_
      exact ⟨-1, rfl, St.gives (O := []) hM, (by omega)⟩
    · skip
      have hc12 := of_decide_eq_false hc12
      have hs2 := hszf.resolve_left hc12
      refine wc_skip ?_
      refine sq_n ?_
      refine wc_seq ?_
      refine wc_region ?_
      refine wv rfl (r_move rfl) ?_
      refine wv rfl (r_assign rfl) ?_
      refine wl_nil ?_
      refine sq_n ?_
      refine wc_ret ?_
      refine fin_ret [(.int .i64 yx8)] ⟨rfl, trivial⟩ ?_
      exact ⟨yx8, rfl, St.gives (O := []) hM, (.inr ⟨by omega, by omega, hs1.2.2, hs2.2.2.mono (by omega)⟩)⟩

theorem ct_laws_toPartSS (w : World) (v_a : Sv) (a : List OV) (a_a : ArgX (oStar []).fp w [v_a.v] (dDeep 1 fO iO a)) (hp0 : okO 1048576 a) : Ret Try.prog 76 [v_a.v] w (fun u w' => ∃ y : List OV, ∃ y0 : Sv, u = y0.v ∧ Gives (oStar []).fp w [oF y0.v 41 1 fO y, oBag oO y] w' ∧ (y.map OV.a = a.map OV.a)) := by
  refine enter Try.func76 rfl Try.ntmps76 (by kernel_rfl) rfl ?_
  have hM := St.enter0 w
  have hM := hM.addE (cs := [v_a.v]) (d := dDeep 1 fO iO a) a_a
  have hl_a := Fs.le (Deep.fl a_a)
  have hl0 := hp0.1
  refine wc_seq ?_
  refine wc_region ?_
  refine wv rfl (r_assign rfl) ?_
  refine wl_nil ?_
  refine sq_n ?_
  refine wc_seq ?_
  refine wc_region ?_
  refine wv rfl (r_move rfl) ?_
  refine wv rfl (r_lenF Try.underlying28 rfl (Deep.fl (hM.arg (.head _)))) ?_
  refine w_makeF (f := fO) (k := a.length) ov0 rfl Try.underlying33 sz41 rfl rfl (by omega) (by omega) hM ?_; intro v2 w1 hM
  obtain ⟨v2, rfl⟩ := Of.sv hM.top
  have hM := hM.bagRep oO a.length zO
  refine wv rfl (r_assign rfl) ?_
  refine wl_nil ?_
  refine sq_n ?_
  refine wc_seq ?_
  refine wc_seq ?_
  refine wc_region ?_
  refine wv rfl (r_assign rfl) ?_
  refine wl_nil ?_
  refine sq_n ?_
  refine wc_block ?_
  refine wc_loop2 (fun (k : Nat) (L : List OV) => [(0, v_a.v), (3, v2.v), (4, (.int .i64 (k : Int)))]) (fun (k : Nat) (L : List OV) w' => St ⟨w, (oStar []).fp⟩ [oBag oO L, oF v2.v 41 1 fO L] [([v_a.v], dDeep 1 fO iO a)] w' ∧ (k ≤ a.length) ∧ (L.length = a.length) ∧ ((L.take k).map OV.a = (a.take k).map OV.a)) (fun (k : Nat) (L : List OV) => a.length - k) 0 (List.replicate a.length ov0) ⟨rfl, rfl, rfl, trivial⟩ ⟨hM, (by omega), (by simp), (rfl)⟩ ?_
  rintro k L w6 ⟨hM, hf0_0, hf0_1, hf0_2⟩
  refine wc_seq ?_
  refine wc_seq ?_
  refine wc_region ?_
  refine wv rfl (r_move rfl) ?_
  refine wv rfl (r_move rfl) ?_
  refine wv rfl (r_lenF Try.underlying28 rfl (Deep.fl (hM.arg (.head _)))) ?_
  refine wv rfl (r_lss rfl rfl) ?_
  refine wl_nil ?_
  refine sq_n ?_
  refine wc_cond rfl (fun hc7 => ?_) (fun hc7 => ?_)
  · skip
    have hc7 := of_decide_eq_true hc7
    refine wc_skip ?_
    refine sq_n ?_
    refine wc_seq ?_
    refine wc_block ?_
    refine wc_region ?_
    refine wv rfl (r_move rfl) ?_
    refine wv rfl (r_move rfl) ?_
    refine wv rfl (r_move rfl) ?_
    refine wv rfl (r_move rfl) ?_
    refine wv rfl (r_ixF Try.underlying28 sz38 rfl rfl (Deep.fl (hM.arg (.head _))) ⟨by omega, by omega⟩) ?_
    have hM := hM.more (Deep.elem (hM.see (.head _)) (i := k) ov0 (by omega) (r := ([(a.getD k ov0).sv.v], dDeep 3 fP iP ((a.getD k ov0).l))) (.head _))
    refine wv rfl (r_ldF0 (i := k) ov0 Try.underlying38 rfl rfl (Deep.fl (hM.arg (.tail _ (.head _)))) (by omega) rfl) ?_
    have hok := hp0.2 _ (mem_getD (l := a) (i := k) (d := ov0) (by omega))
    refine w_call rfl rfl (ct_laws_toPartS w6 _ ((a.getD k ov0).l) (St.argx (L := []) hM (.head _)) (hok.1) (hok.2)) ?_
    rintro _ w10 ⟨yx8, y0x9, rfl, hG11, hf12⟩
    have hM := St.got (L := []) hM hG11
    simp only [List.cons_append, List.nil_append] at hM
    have hya := hf12
    refine wv rfl (r_ixO Try.underlying33 sz41 rfl rfl (hM.at' (.tail _ (.tail _ (.tail _ (.head _))))) ⟨by omega, by omega⟩) ?_
    have hM := hM.pull3
    refine w_stF0 (f := fO) (L := L) (i := k) ov0 (⟨y0x9, yx8⟩) sz41 (fun _ => rfl) rfl rfl rfl (by omega) rfl rfl hM ?_; intro w13 hM
    have hM := hM.pull3
    have hM := hM.pull3
    have hM := hM.pull3
    have hM := St.bagSet (own := oO) (L := L) (i := k) (y := (⟨y0x9, yx8⟩ : OV)) ov0 hM (by omega)
    refine wl_nil ?_
    refine bk_n ?_
    refine sq_n ?_
    refine wc_region ?_
    refine wv rfl (r_move rfl) ?_
    refine wv rfl (r_add rfl rfl ⟨by omega, by omega⟩) ?_
    refine wv rfl (r_assign rfl) ?_
    refine wl_nil ?_
    have hM := hM.swap
    have hM := hM.swap
    have hM := hM.lessR
    exact lp_end2 (k + 1) (L.set k (⟨y0x9, yx8⟩)) (by omega) ⟨rfl, rfl, rfl, trivial⟩ ⟨hM, (by omega), (by rw [List.length_set]; omega), (m_set_step ov0 hf0_1 (by omega) hf0_2 hya)⟩
  · skip
    have hc7 := of_decide_eq_false hc7
    refine wc_exit ?_
    refine sq_exit ?_
    refine lp2_exit ?_
    refine bk_here ?_
    refine sq_n ?_
    refine wc_seq ?_
    refine wc_region ?_
    refine wv rfl (r_move rfl) ?_
    refine wv rfl (r_assign rfl) ?_
    refine wl_nil ?_
    refine sq_n ?_
    refine wc_ret ?_
    have hM := hM.swap
    refine fin_ret [v2.v] ⟨rfl, trivial⟩ ?_
    exact ⟨L, v2, rfl, St.gives (O := [oF v2.v 41 1 fO L, oBag oO L]) hM, (by rw [← m_full (k := k) (L := L) (by omega), hf0_2, m_full (by omega)])⟩

theorem ct_laws_toStory (w : World) (a : SV) (a_a_0 : ArgX (oStar []).fp w [a.uv.v] (dDeep 1 fO iO a.ul)) (a_a_1 : ArgX (oStar []).fp w [a.rv.v] (dDeep 1 fO iO a.rl)) (hp0 : okO 1048576 a.ul) (hp1 : okO 1048576 a.rl) : Ret Try.prog 26 [.agg #[(.int .i64 a.n), a.uv.v, a.rv.v]] w (fun u w' => ∃ y : SV, u = .agg #[(.int .i64 y.n), y.uv.v, y.rv.v] ∧ Gives (oStar []).fp w [oF y.uv.v 41 1 fO y.ul, oBag oO y.ul, oF y.rv.v 41 1 fO y.rl, oBag oO y.rl] w' ∧ (y.a = a.a)) := by
  refine enter Try.func26 rfl Try.ntmps26 (by kernel_rfl) rfl ?_
  have hM := St.enter0 w
  have hM := hM.addE (cs := [a.uv.v]) (d := dDeep 1 fO iO a.ul) a_a_0
  have hl_a_0 := Fs.le (Deep.fl a_a_0)
  have hM := hM.addE (cs := [a.rv.v]) (d := dDeep 1 fO iO a.rl) a_a_1
  have hl_a_1 := Fs.le (Deep.fl a_a_1)
  refine wc_seq ?_
  refine wc_region ?_
  refine w_box rfl rfl hM ?_; intro b1 w2 hM
  refine w_alloc rfl sz35 hM ?_; intro b3 w4 hM
  refine wl_nil ?_
  refine sq_n ?_
  refine wc_seq ?_
  refine wc_region ?_
  refine w_alloc rfl sz35 hM ?_; intro b5 w6 hM
  refine wl_nil ?_
  refine sq_n ?_
  refine wc_seq ?_
  refine wc_region ?_
  refine wv rfl (r_fld Try.underlying30 rfl rfl sz3 rfl) ?_
  refine wv rfl (r_ldB Try.underlying3 rfl rfl (hM.at' (.tail _ (.tail _ (.head _)))) rfl) ?_
  refine wv rfl (r_fld Try.underlying35 rfl rfl sz3 rfl) ?_
  refine w_st1 sz3 rfl rfl rfl rfl hM ?_; intro w7 hM
  refine wl_nil ?_
  refine sq_n ?_
  refine wc_seq ?_
  refine wc_region ?_
  refine wv rfl (r_fld Try.underlying30 rfl rfl sz28 rfl) ?_
  refine wv rfl (r_ldB Try.underlying28 rfl rfl (hM.at' (.tail _ (.tail _ (.head _)))) rfl) ?_
  refine w_call rfl rfl (ct_laws_toPartSS w7 _ a.ul (St.argx (L := []) hM (.tail _ (.head _))) (by assumption)) ?_
  rintro _ w10 ⟨yx8, y0x9, rfl, hG11, hf12⟩
  have hM := St.got (L := []) hM hG11
  simp only [List.cons_append, List.nil_append] at hM
  refine wv rfl (r_fld Try.underlying35 rfl rfl sz33 rfl) ?_
  have hM := hM.roll
  refine w_st1 sz33 rfl rfl rfl rfl hM ?_; intro w13 hM
  refine wl_nil ?_
  refine sq_n ?_
  refine wc_seq ?_
  refine wc_region ?_
  refine wv rfl (r_fld Try.underlying30 rfl rfl sz28 rfl) ?_
  refine wv rfl (r_ldB Try.underlying28 rfl rfl (hM.at' (.tail _ (.tail _ (.tail _ (.tail _ (.head _)))))) rfl) ?_
  refine w_call rfl rfl (ct_laws_toPartSS w13 _ a.rl (St.argx (L := []) hM (.head _)) (by assumption)) ?_
  rintro _ w16 ⟨yx14, y0x15, rfl, hG17, hf18⟩
  have hM := St.got (L := []) hM hG17
  simp only [List.cons_append, List.nil_append] at hM
  refine wv rfl (r_fld Try.underlying35 rfl rfl sz33 rfl) ?_
  have hM := hM.roll
  refine w_st1 sz33 rfl rfl rfl rfl hM ?_; intro w19 hM
  refine wl_nil ?_
  refine sq_n ?_
  refine wc_seq ?_
  refine wc_region ?_
  refine wv rfl (r_ldBS Try.underlying35 sz35 rfl (cs := [(.int .i64 a.n), y0x9.v, y0x15.v]) rfl (hM.at' (.head _))) ?_
  have hM := hM.pull5
  refine w_stB sz35 rfl rfl rfl hM rfl rfl ?_; intro w20 hM
  refine wl_nil ?_
  refine sq_n ?_
  refine wc_ret ?_
  have hM := hM.pull3
  have hM := hM.pull3
  have hM := hM.pull5
  have hM := hM.pull5
  refine fin_ret [(.agg #[(.int .i64 a.n), y0x9.v, y0x15.v])] ⟨rv_box Try.underlying35 sz35 (cs := [(.int .i64 a.n), y0x9.v, y0x15.v]) rfl rfl (hM.at' (.tail _ (.tail _ (.tail _ (.tail _ (.head _)))))), trivial⟩ ?_
  exact ⟨⟨a.n, y0x9, yx8, y0x15, yx14⟩, rfl, St.gives (O := [oF y0x9.v 41 1 fO yx8, oBag oO yx8, oF y0x15.v 41 1 fO yx14, oBag oO yx14]) hM, (Sto.ext' rfl (by assumption) (by assumption))⟩

theorem ct_laws_eqPartSS (w : World) (v_a : Value) (a : List OV) (a_a : Arg w [v_a] (dDeep 1 fO iO a)) (v_b : Value) (b : List OV) (a_b : Arg w [v_b] (dDeep 1 fO iO b)) : Ret Try.prog 79 [v_a, v_b] w (fun u w' => u = .bool (decide (a.map OV.a = b.map OV.a)) ∧ Rel w w') := by
  refine enter Try.func79 rfl Try.ntmps79 (by kernel_rfl) rfl ?_
  have hM := St.init w
  have hM := hM.addA a_a
  have hl_a := Fs.le (Deep.fl a_a)
  have hM := hM.addA a_b
  have hl_b := Fs.le (Deep.fl a_b)
  refine wc_seq ?_
  refine wc_region ?_
  refine wv rfl (r_assign rfl) ?_
  refine wl_nil ?_
  refine sq_n ?_
  refine wc_seq ?_
  refine wc_seq ?_
  refine wc_region ?_
  refine wv rfl (r_move rfl) ?_
  refine wv rfl (r_lenF Try.underlying33 rfl (Deep.fl (hM.arg (.tail _ (.head _))))) ?_
  refine wv rfl (r_move rfl) ?_
  refine wv rfl (r_lenF Try.underlying33 rfl (Deep.fl (hM.arg (.head _)))) ?_
  refine wv rfl (r_neq rfl rfl) ?_
  refine wl_nil ?_
  refine sq_n ?_
  refine wc_cond rfl (fun hc1 => ?_) (fun hc1 => ?_)
  · skip
    have hc1 := bnot_t hc1
    have hc1 := of_decide_eq_false hc1
    refine wc_seq ?_
    refine wc_region ?_
    refine wv rfl (r_assign rfl) ?_
    refine wl_nil ?_
    refine sq_n ?_
    refine wc_ret ?_
    refine sq_ret ?_
    refine fin_ret [(.bool false)] ⟨rfl, trivial⟩ ?_
    exact ⟨vbool (m_ne_len (by assumption)), hM.rel⟩
  · skip
    have hc1 := bnot_f hc1
    have hc1 := of_decide_eq_true hc1
    refine wc_skip ?_
    refine sq_n ?_
    refine wc_seq ?_
    refine wc_seq ?_
    refine wc_region ?_
    refine wv rfl (r_assign rfl) ?_
    refine wl_nil ?_
    refine sq_n ?_
    refine wc_block ?_
    refine wc_loop1 (fun (k : Nat) => [(0, v_a), (1, v_b), (5, (.int .i64 (k : Int)))]) (fun (k : Nat) w' => St (b0 w) [] [([v_b], dDeep 1 fO iO b), ([v_a], dDeep 1 fO iO a)] w' ∧ (k ≤ a.length) ∧ ((a.take k).map OV.a = (b.take k).map OV.a)) (fun (k : Nat) => a.length - k) 0 ⟨rfl, rfl, rfl, trivial⟩ ⟨hM, (by omega), (rfl)⟩ ?_
    rintro k w2 ⟨hM, hf0_0, hf0_1⟩
    refine wc_seq ?_
    refine wc_seq ?_
    refine wc_region ?_
    refine wv rfl (r_move rfl) ?_
    refine wv rfl (r_move rfl) ?_
    refine wv rfl (r_lenF Try.underlying33 rfl (Deep.fl (hM.arg (.tail _ (.head _))))) ?_
    refine wv rfl (r_lss rfl rfl) ?_
    refine wl_nil ?_
    refine sq_n ?_
    refine wc_cond rfl (fun hc3 => ?_) (fun hc3 => ?_)
    · skip
      have hc3 := of_decide_eq_true hc3
      refine wc_skip ?_
      refine sq_n ?_
      refine wc_seq ?_
      refine wc_block ?_
      refine wc_seq ?_
      refine wc_draw [(0, false), (1, false), (2, false), (3, false), (4, false), (5, false), (6, false), (7, false), (8, false), (9, false)] Try_mixed (by kernel_rfl) rfl (by kernel_rfl) rfl ?_
      refine ov rfl (fun w' h' => r_move rfl) ?_
      refine ov rfl (fun w' h' => r_move rfl) ?_
      refine ov rfl (fun w' h' => r_ixF Try.underlying33 sz41 rfl rfl (Deep.fl ((hM.call h').arg (.tail _ (.head _)))) ⟨by omega, by omega⟩) ?_
      have hM := hM.more (Deep.elem (hM.see (.tail _ (.head _))) (i := k) ov0 (by omega) (r := ([(a.getD k ov0).sv.v], dDeep 3 fP iP ((a.getD k ov0).l))) (.head _))
      refine ov rfl (fun w' h' => r_ldF0 (i := k) ov0 Try.underlying41 rfl rfl (Deep.fl ((hM.call h').arg (.tail _ (.tail _ (.head _))))) (by omega) rfl) ?_
      refine ov rfl (fun w' h' => r_move rfl) ?_
      refine ov rfl (fun w' h' => r_move rfl) ?_
      refine ov rfl (fun w' h' => r_ixF Try.underlying33 sz41 rfl rfl (Deep.fl ((hM.call h').arg (.tail _ (.head _)))) ⟨by omega, by omega⟩) ?_
      have hM := hM.more (Deep.elem (hM.see (.tail _ (.head _))) (i := k) ov0 (by omega) (r := ([(b.getD k ov0).sv.v], dDeep 3 fP iP ((b.getD k ov0).l))) (.head _))
      refine ov rfl (fun w' h' => r_ldF0 (i := k) ov0 Try.underlying41 rfl rfl (Deep.fl ((hM.call h').arg (.tail _ (.tail _ (.head _))))) (by omega) rfl) ?_
      refine oc rfl rfl (fun w' h' => ct_laws_eqPartS _ _ ((a.getD k ov0).l) ((hM.call h').arg (.tail _ (.head _))) _ ((b.getD k ov0).l) ((hM.call h').arg (.head _))) ?_
      refine ov rfl (fun w' h' => r_not rfl) ?_
      refine o_nil fun w4 hw5 => ?_
      have hM := hM.call hw5
      refine sq_n ?_
      refine wc_cond rfl (fun hc6 => ?_) (fun hc6 => ?_)
      · skip
        have hc6 := bnot_t hc6
        have hc6 := of_decide_eq_false hc6
        refine wc_seq ?_
        refine wc_region ?_
        refine wv rfl (r_assign rfl) ?_
        refine wl_nil ?_
        refine sq_n ?_
        refine wc_ret ?_
        refine bk_ret ?_
        refine sq_ret ?_
        refine lp1_ret ?_
        refine bk_ret ?_
        refine sq_ret ?_
        refine fin_ret [(.bool false)] ⟨rfl, trivial⟩ ?_
        exact ⟨vbool (m_ne_get (k := k) ov0 (by assumption)), hM.rel⟩
      · skip
        have hc6 := bnot_f hc6
        have hc6 := of_decide_eq_true hc6
        refine wc_skip ?_
        refine bk_n ?_
        refine sq_n ?_
        refine wc_region ?_
        refine wv rfl (r_move rfl) ?_
        refine wv rfl (r_add rfl rfl ⟨by omega, by omega⟩) ?_
        refine wv rfl (r_assign rfl) ?_
        refine wl_nil ?_
        have hM := hM.lessR
        have hM := hM.lessR
        exact lp_end1 (k + 1) (by omega) ⟨rfl, rfl, rfl, trivial⟩ ⟨hM, (by omega), (m_eq_step ov0 (by omega) (by omega) hf0_1 (by assumption))⟩
    · skip
      have hc3 := of_decide_eq_false hc3
      refine wc_exit ?_
      refine sq_exit ?_
      refine lp1_exit ?_
      refine bk_here ?_
      refine sq_n ?_
      refine wc_seq ?_
      refine wc_region ?_
      refine wv rfl (r_assign rfl) ?_
      refine wl_nil ?_
      refine sq_n ?_
      refine wc_ret ?_
      refine fin_ret [(.bool true)] ⟨rfl, trivial⟩ ?_
      exact ⟨vbool (m_eq_end (k := k) (by omega) (by omega) hf0_1), hM.rel⟩

theorem ct_laws_eqStory (w : World) (a : SV) (a_a_0 : Arg w [a.uv.v] (dDeep 1 fO iO a.ul)) (a_a_1 : Arg w [a.rv.v] (dDeep 1 fO iO a.rl)) (b : SV) (a_b_0 : Arg w [b.uv.v] (dDeep 1 fO iO b.ul)) (a_b_1 : Arg w [b.rv.v] (dDeep 1 fO iO b.rl)) : Ret Try.prog 28 [.agg #[(.int .i64 a.n), a.uv.v, a.rv.v], .agg #[(.int .i64 b.n), b.uv.v, b.rv.v]] w (fun u w' => u = .bool (decide (a.a = b.a)) ∧ Rel w w') := by
  refine enter Try.func28 rfl Try.ntmps28 (by kernel_rfl) rfl ?_
  have hM := St.init w
  have hM := hM.addA a_a_0
  have hl_a_0 := Fs.le (Deep.fl a_a_0)
  have hM := hM.addA a_a_1
  have hl_a_1 := Fs.le (Deep.fl a_a_1)
  have hM := hM.addA a_b_0
  have hl_b_0 := Fs.le (Deep.fl a_b_0)
  have hM := hM.addA a_b_1
  have hl_b_1 := Fs.le (Deep.fl a_b_1)
  refine wc_seq ?_
  refine wc_region ?_
  refine w_box rfl rfl hM ?_; intro b1 w2 hM
  refine w_box rfl rfl hM ?_; intro b3 w4 hM
  refine wv rfl (r_assign rfl) ?_
  refine wl_nil ?_
  refine sq_n ?_
  refine wc_seq ?_
  refine wc_seq ?_
  refine wc_region ?_
  refine wv rfl (r_fld Try.underlying35 rfl rfl sz3 rfl) ?_
  refine wv rfl (r_ldB Try.underlying3 rfl rfl (hM.at' (.tail _ (.head _))) rfl) ?_
  refine wv rfl (r_fld Try.underlying35 rfl rfl sz3 rfl) ?_
  refine wv rfl (r_ldB Try.underlying3 rfl rfl (hM.at' (.head _)) rfl) ?_
  refine wv rfl (r_neq rfl rfl) ?_
  refine wl_nil ?_
  refine sq_n ?_
  refine wc_cond rfl (fun hc5 => ?_) (fun hc5 => ?_)
  · skip
    have hc5 := bnot_t hc5
    have hc5 := of_decide_eq_false hc5
    refine wc_seq ?_
    refine wc_region ?_
    refine wv rfl (r_assign rfl) ?_
    refine wl_nil ?_
    refine sq_n ?_
    refine wc_ret ?_
    refine sq_ret ?_
    refine fin_ret [(.bool false)] ⟨rfl, trivial⟩ ?_
    exact ⟨vbool (stoEq_1 (by assumption)), hM.rel⟩
  · skip
    have hc5 := bnot_f hc5
    have hc5 := of_decide_eq_true hc5
    refine wc_skip ?_
    refine sq_n ?_
    refine wc_seq ?_
    refine wc_seq ?_
    refine wc_region ?_
    refine wv rfl (r_fld Try.underlying35 rfl rfl sz33 rfl) ?_
    refine wv rfl (r_ldB Try.underlying33 rfl rfl (hM.at' (.tail _ (.head _))) rfl) ?_
    refine wv rfl (r_fld Try.underlying35 rfl rfl sz33 rfl) ?_
    refine wv rfl (r_ldB Try.underlying33 rfl rfl (hM.at' (.head _)) rfl) ?_
    refine w_call rfl rfl (ct_laws_eqPartSS _ _ a.ul (hM.arg (.tail _ (.tail _ (.tail _ (.head _))))) _ b.ul (hM.arg (.tail _ (.head _)))) ?_
    rintro _ w6 ⟨rfl, hR7⟩
    have hM := hM.call hR7
    refine wv rfl (r_not rfl) ?_
    refine wl_nil ?_
    refine sq_n ?_
    refine wc_cond rfl (fun hc8 => ?_) (fun hc8 => ?_)
    · skip
      have hc8 := bnot_t hc8
      have hc8 := of_decide_eq_false hc8
      refine wc_seq ?_
      refine wc_region ?_
      refine wv rfl (r_assign rfl) ?_
      refine wl_nil ?_
      refine sq_n ?_
      refine wc_ret ?_
      refine sq_ret ?_
      refine fin_ret [(.bool false)] ⟨rfl, trivial⟩ ?_
      exact ⟨vbool (stoEq_2 (by assumption)), hM.rel⟩
    · skip
      have hc8 := bnot_f hc8
      have hc8 := of_decide_eq_true hc8
      refine wc_skip ?_
      refine sq_n ?_
      refine wc_seq ?_
      refine wc_seq ?_
      refine wc_region ?_
      refine wv rfl (r_fld Try.underlying35 rfl rfl sz33 rfl) ?_
      refine wv rfl (r_ldB Try.underlying33 rfl rfl (hM.at' (.tail _ (.head _))) rfl) ?_
      refine wv rfl (r_fld Try.underlying35 rfl rfl sz33 rfl) ?_
      refine wv rfl (r_ldB Try.underlying33 rfl rfl (hM.at' (.head _)) rfl) ?_
      refine w_call rfl rfl (ct_laws_eqPartSS _ _ a.rl (hM.arg (.tail _ (.tail _ (.head _)))) _ b.rl (hM.arg (.head _))) ?_
      rintro _ w9 ⟨rfl, hR10⟩
      have hM := hM.call hR10
      refine wv rfl (r_not rfl) ?_
      refine wl_nil ?_
      refine sq_n ?_
      refine wc_cond rfl (fun hc11 => ?_) (fun hc11 => ?_)
      · skip
        have hc11 := bnot_t hc11
        have hc11 := of_decide_eq_false hc11
        refine wc_seq ?_
        refine wc_region ?_
        refine wv rfl (r_assign rfl) ?_
        refine wl_nil ?_
        refine sq_n ?_
        refine wc_ret ?_
        refine sq_ret ?_
        refine fin_ret [(.bool false)] ⟨rfl, trivial⟩ ?_
        exact ⟨vbool (stoEq_3 (by assumption)), hM.rel⟩
      · skip
        have hc11 := bnot_f hc11
        have hc11 := of_decide_eq_true hc11
        refine wc_skip ?_
        refine sq_n ?_
        refine wc_seq ?_
        refine wc_region ?_
        refine wv rfl (r_assign rfl) ?_
        refine wl_nil ?_
        refine sq_n ?_
        refine wc_ret ?_
        refine fin_ret [(.bool true)] ⟨rfl, trivial⟩ ?_
        exact ⟨vbool (stoEq_y (by assumption) (by assumption) (by assumption)), hM.rel⟩

theorem ct_laws_FnExactPastSame (w : World) (aP : SV) (aQ : SV) (a_aP_0 : ArgX (oStar []).fp w [aP.uv.v] (dDeep 1 fO iO aP.ul)) (a_aP_1 : ArgX (oStar []).fp w [aP.rv.v] (dDeep 1 fO iO aP.rl)) (a_aQ_0 : ArgX (oStar []).fp w [aQ.uv.v] (dDeep 1 fO iO aQ.ul)) (a_aQ_1 : ArgX (oStar []).fp w [aQ.rv.v] (dDeep 1 fO iO aQ.rl)) : Ret Try.prog 6 [.agg #[(.int .i64 aP.n), aP.uv.v, aP.rv.v], .agg #[(.int .i64 aQ.n), aQ.uv.v, aQ.rv.v]] w (fun u w' => u = .bool true ∧ Gives (oStar []).fp w [] w') := by
  refine enter Try.func6 rfl Try.ntmps6 (by kernel_rfl) rfl ?_
  have hM := St.enter0 w
  have hM := hM.addE (cs := [aP.uv.v]) (d := dDeep 1 fO iO aP.ul) a_aP_0
  have hl_aP_0 := Fs.le (Deep.fl a_aP_0)
  have hM := hM.addE (cs := [aP.rv.v]) (d := dDeep 1 fO iO aP.rl) a_aP_1
  have hl_aP_1 := Fs.le (Deep.fl a_aP_1)
  have hM := hM.addE (cs := [aQ.uv.v]) (d := dDeep 1 fO iO aQ.ul) a_aQ_0
  have hl_aQ_0 := Fs.le (Deep.fl a_aQ_0)
  have hM := hM.addE (cs := [aQ.rv.v]) (d := dDeep 1 fO iO aQ.rl) a_aQ_1
  have hl_aQ_1 := Fs.le (Deep.fl a_aQ_1)
  refine wc_seq ?_
  refine wc_region ?_
  refine w_box rfl rfl hM ?_; intro b1 w2 hM
  refine w_box rfl rfl hM ?_; intro b3 w4 hM
  refine wv rfl (r_assign rfl) ?_
  refine wl_nil ?_
  refine sq_n ?_
  refine wc_seq ?_
  refine wc_region ?_
  refine wv rfl (r_assign rfl) ?_
  refine wl_nil ?_
  refine sq_n ?_
  refine wc_seq ?_
  refine wc_region ?_
  refine wv rfl (r_ldBS Try.underlying30 sz30 rfl (cs := [(.int .i64 aP.n), aP.uv.v, aP.rv.v]) rfl (hM.at' (.tail _ (.head _)))) ?_
  refine wv rfl (r_move rfl) ?_
  refine w_call rfl rfl (ct_laws_szStory w4 (aP : SV) (1048576 : Int) (St.argx (L := []) hM (.tail _ (.tail _ (.tail _ (.head _))))) (St.argx (L := []) hM (.tail _ (.tail _ (.head _)))) (by first | omega | (simp; done) | (simp; omega))) ?_
  rintro _ w6 ⟨yx5, rfl, hG7, hf8⟩
  have hM := St.got (L := []) hM hG7
  simp only [List.cons_append, List.nil_append] at hM
  have hszf := hf8
  refine wv rfl (r_assign rfl) ?_
  refine wl_nil ?_
  refine sq_n ?_
  refine wc_seq ?_
  refine wc_seq ?_
  refine wc_region ?_
  refine wv rfl (r_move rfl) ?_
  refine wv rfl (r_lss rfl rfl) ?_
  refine wl_nil ?_
  refine sq_n ?_
  refine wc_cond rfl (fun hc9 => ?_) (fun hc9 => ?_)
  · skip
    have hc9 := of_decide_eq_true hc9
    refine wc_seq ?_
    refine wc_region ?_
    refine wv rfl (r_assign rfl) ?_
    refine wl_nil ?_
    refine sq_n ?_
    refine wc_ret ?_
    refine sq_ret ?_
    refine fin_ret [(.bool true)] ⟨rfl, trivial⟩ ?_
    exact ⟨rfl, St.gives (O := []) hM⟩
  · skip
    have hc9 := of_decide_eq_false hc9
    obtain ⟨_, _, hsp1, hsp2⟩ := hszf.resolve_left hc9
    refine wc_skip ?_
    refine sq_n ?_
    refine wc_seq ?_
    refine wc_region ?_
    refine wv rfl (r_ldBS Try.underlying30 sz30 rfl (cs := [(.int .i64 aQ.n), aQ.uv.v, aQ.rv.v]) rfl (hM.at' (.head _))) ?_
    refine wv rfl (r_move rfl) ?_
    refine w_call rfl rfl (ct_laws_szStory w6 (aQ : SV) yx5 (St.argx (L := []) hM (.tail _ (.head _))) (St.argx (L := []) hM (.head _)) (by first | omega | (simp; done) | (simp; omega))) ?_
    rintro _ w11 ⟨yx10, rfl, hG12, hf13⟩
    have hM := St.got (L := []) hM hG12
    simp only [List.cons_append, List.nil_append] at hM
    have hszf := hf13
    refine wv rfl (r_assign rfl) ?_
    refine wl_nil ?_
    refine sq_n ?_
    refine wc_seq ?_
    refine wc_seq ?_
    refine wc_region ?_
    refine wv rfl (r_move rfl) ?_
    refine wv rfl (r_lss rfl rfl) ?_
    refine wl_nil ?_
    refine sq_n ?_
    refine wc_cond rfl (fun hc14 => ?_) (fun hc14 => ?_)
    · skip
      have hc14 := of_decide_eq_true hc14
      refine wc_seq ?_
      refine wc_region ?_
      refine wv rfl (r_assign rfl) ?_
      refine wl_nil ?_
      refine sq_n ?_
      refine wc_ret ?_
      refine sq_ret ?_
      refine fin_ret [(.bool true)] ⟨rfl, trivial⟩ ?_
      exact ⟨rfl, St.gives (O := []) hM⟩
    · skip
      have hc14 := of_decide_eq_false hc14
      obtain ⟨_, _, hsq1, hsq2⟩ := hszf.resolve_left hc14
      refine wc_skip ?_
      refine sq_n ?_
      refine wc_seq ?_
      refine wc_draw [(0, false), (2, false), (1, true), (3, true), (4, false), (5, false)] Try_mixed (by kernel_rfl) rfl (by kernel_rfl) rfl ?_
      refine ov rfl (fun w' h' => r_ldBS Try.underlying30 sz30 rfl (cs := [(.int .i64 aP.n), aP.uv.v, aP.rv.v]) rfl ((hM.call h').at' (.tail _ (.head _)))) ?_
      refine ov rfl (fun w' h' => r_ldBS Try.underlying30 sz30 rfl (cs := [(.int .i64 aQ.n), aQ.uv.v, aQ.rv.v]) rfl ((hM.call h').at' (.head _))) ?_
      refine o_forced rfl rfl (fun w' h' => ct_laws_toStory w' (aP : SV) (St.argx (L := []) (hM.call h') (.tail _ (.tail _ (.tail _ (.head _))))) (St.argx (L := []) (hM.call h') (.tail _ (.tail _ (.head _)))) (by first | exact hsp1 | exact hsp2 | exact hsq1.mono (by omega) | exact hsq2.mono (by omega)) (by first | exact hsp1 | exact hsp2 | exact hsq1.mono (by omega) | exact hsq2.mono (by omega))) ?_
      rintro w19 h20 _ w16 ⟨yx15, rfl, hG17, hf18⟩
      refine ⟨hG17.rel, ?_⟩
      have hM := St.got (L := []) (hM.call h20) hG17
      simp only [List.cons_append, List.nil_append] at hM
      refine o_forced rfl rfl (fun w' h' => ct_laws_toStory w' (aQ : SV) (St.argx (L := []) (hM.call h') (.tail _ (.head _))) (St.argx (L := []) (hM.call h') (.head _)) (by first | exact hsp1 | exact hsp2 | exact hsq1.mono (by omega) | exact hsq2.mono (by omega)) (by first | exact hsp1 | exact hsp2 | exact hsq1.mono (by omega) | exact hsq2.mono (by omega))) ?_
      rintro w25 h26 _ w22 ⟨yx21, rfl, hG23, hf24⟩
      refine ⟨hG23.rel, ?_⟩
      have hM := St.got (L := []) (hM.call h26) hG23
      simp only [List.cons_append, List.nil_append] at hM
      refine oc rfl rfl (fun w' h' => ct_spec_PastSame _ (yx15 : SV) (ArgX.arg (St.argD (M := []) (hM.call h') (.tail _ (.tail _ (.tail _ (.tail _ (.head _))))) (.tail _ (.tail _ (.tail _ (.tail _ (.tail _ (.head _)))))) (fun _ => rfl) hroO)) (ArgX.arg (St.argD (M := []) (hM.call h') (.tail _ (.tail _ (.tail _ (.tail _ (.tail _ (.tail _ (.head _))))))) (.tail _ (.tail _ (.tail _ (.tail _ (.tail _ (.tail _ (.tail _ (.head _)))))))) (fun _ => rfl) hroO)) (yx21 : SV) (ArgX.arg (St.argD (M := []) (hM.call h') (.head _) (.tail _ (.head _)) (fun _ => rfl) hroO)) (ArgX.arg (St.argD (M := []) (hM.call h') (.tail _ (.tail _ (.head _))) (.tail _ (.tail _ (.tail _ (.head _)))) (fun _ => rfl) hroO))) ?_
      refine ov rfl (fun w' h' => r_assign rfl) ?_
      refine o_nil fun w27 hw28 => ?_
      have hM := hM.call hw28
      refine sq_n ?_
      refine wc_seq ?_
      refine wc_region ?_
      refine wv rfl (r_ldBS Try.underlying30 sz30 rfl (cs := [(.int .i64 aP.n), aP.uv.v, aP.rv.v]) rfl (hM.at' (.tail _ (.tail _ (.tail _ (.tail _ (.tail _ (.tail _ (.tail _ (.tail _ (.tail _ (.head _)))))))))))) ?_
      refine w_call rfl rfl (ct_laws_toStory w27 (aP : SV) (St.argx (L := []) hM (.tail _ (.tail _ (.tail _ (.head _))))) (St.argx (L := []) hM (.tail _ (.tail _ (.head _)))) (by first | exact hsp1 | exact hsp2 | exact hsq1.mono (by omega) | exact hsq2.mono (by omega)) (by first | exact hsp1 | exact hsp2 | exact hsq1.mono (by omega) | exact hsq2.mono (by omega))) ?_
      rintro _ w30 ⟨yx29, rfl, hG31, hf32⟩
      have hM := St.got (L := []) hM hG31
      simp only [List.cons_append, List.nil_append] at hM
      refine w_alloc rfl sz35 hM ?_; intro b33 w34 hM
      refine w_stB sz35 rfl rfl rfl hM rfl rfl ?_; intro w35 hM
      refine wl_nil ?_
      refine sq_n ?_
      refine wc_seq ?_
      refine wc_region ?_
      refine wv rfl (r_ldBS Try.underlying30 sz30 rfl (cs := [(.int .i64 aQ.n), aQ.uv.v, aQ.rv.v]) rfl (hM.at' (.tail _ (.tail _ (.tail _ (.tail _ (.tail _ (.tail _ (.tail _ (.tail _ (.tail _ (.tail _ (.tail _ (.tail _ (.tail _ (.head _)))))))))))))))) ?_
      refine w_call rfl rfl (ct_laws_toStory w35 (aQ : SV) (St.argx (L := []) hM (.tail _ (.head _))) (St.argx (L := []) hM (.head _)) (by first | exact hsp1 | exact hsp2 | exact hsq1.mono (by omega) | exact hsq2.mono (by omega)) (by first | exact hsp1 | exact hsp2 | exact hsq1.mono (by omega) | exact hsq2.mono (by omega))) ?_
      rintro _ w37 ⟨yx36, rfl, hG38, hf39⟩
      have hM := St.got (L := []) hM hG38
      simp only [List.cons_append, List.nil_append] at hM
      refine w_alloc rfl sz35 hM ?_; intro b40 w41 hM
      refine w_stB sz35 rfl rfl rfl hM rfl rfl ?_; intro w42 hM
      refine wl_nil ?_
      refine sq_n ?_
      refine wc_seq ?_
      refine wc_region ?_
      refine wv rfl (r_ldBS Try.underlying35 sz35 rfl (cs := [(.int .i64 yx29.n), yx29.uv.v, yx29.rv.v]) rfl (hM.at' (.tail _ (.tail _ (.tail _ (.tail _ (.tail _ (.head _)))))))) ?_
      refine wv rfl (r_ldBS Try.underlying35 sz35 rfl (cs := [(.int .i64 yx36.n), yx36.uv.v, yx36.rv.v]) rfl (hM.at' (.head _))) ?_
      refine w_call rfl rfl (ct_impl_PastSame _ (yx29 : SV) (ArgX.arg (St.argD (M := []) hM (.tail _ (.tail _ (.tail _ (.tail _ (.tail _ (.tail _ (.head _))))))) (.tail _ (.tail _ (.tail _ (.tail _ (.tail _ (.tail _ (.tail _ (.head _)))))))) (fun _ => rfl) hroO)) (ArgX.arg (St.argD (M := []) hM (.tail _ (.tail _ (.tail _ (.tail _ (.tail _ (.tail _ (.tail _ (.tail _ (.head _))))))))) (.tail _ (.tail _ (.tail _ (.tail _ (.tail _ (.tail _ (.tail _ (.tail _ (.tail _ (.head _)))))))))) (fun _ => rfl) hroO)) (yx36 : SV) (ArgX.arg (St.argD (M := []) hM (.tail _ (.head _)) (.tail _ (.tail _ (.head _))) (fun _ => rfl) hroO)) (ArgX.arg (St.argD (M := []) hM (.tail _ (.tail _ (.tail _ (.head _)))) (.tail _ (.tail _ (.tail _ (.tail _ (.head _))))) (fun _ => rfl) hroO))) ?_
      rintro _ w43 ⟨rfl, hR44⟩
      have hM := hM.call hR44
      refine wv rfl (r_assign rfl) ?_
      refine wl_nil ?_
      refine sq_n ?_
      refine wc_seq ?_
      refine wc_seq ?_
      refine wc_region ?_
      refine wv rfl (r_move rfl) ?_
      refine wv rfl (r_move rfl) ?_
      refine wv rfl (r_neqb Try.underlying4 rfl rfl) ?_
      refine wl_nil ?_
      refine sq_n ?_
      refine wc_cond rfl (fun hc45 => ?_) (fun hc45 => ?_)
      · skip
        exact absurd hc45 (by first | omega | (intro hn; exact hn rfl) | (simp; done) | (simp; omega) | (intro hn; exact hn (by simp only [hf18, hf24, hf32, hf39])) | (simp [hf18, hf24, hf32, hf39]; done))
      · skip
        refine wc_skip ?_
        refine sq_n ?_
        refine wc_seq ?_
        refine wc_seq ?_
        refine wc_draw [(0, false), (1, false), (2, true), (3, false), (4, false)] Try_mixed (by kernel_rfl) rfl (by kernel_rfl) rfl ?_
        refine ov rfl (fun w' h' => r_ldBS Try.underlying35 sz35 rfl (cs := [(.int .i64 yx29.n), yx29.uv.v, yx29.rv.v]) rfl ((hM.call h').at' (.tail _ (.tail _ (.tail _ (.tail _ (.tail _ (.head _)))))))) ?_
        refine ov rfl (fun w' h' => r_ldBS Try.underlying30 sz30 rfl (cs := [(.int .i64 aP.n), aP.uv.v, aP.rv.v]) rfl ((hM.call h').at' (.tail _ (.tail _ (.tail _ (.tail _ (.tail _ (.tail _ (.tail _ (.tail _ (.tail _ (.tail _ (.tail _ (.tail _ (.tail _ (.tail _ (.tail _ (.tail _ (.tail _ (.tail _ (.tail _ (.head _)))))))))))))))))))))) ?_
        refine o_forced rfl rfl (fun w' h' => ct_laws_toStory w' (aP : SV) (St.argx (L := []) (hM.call h') (.tail _ (.tail _ (.tail _ (.head _))))) (St.argx (L := []) (hM.call h') (.tail _ (.tail _ (.head _)))) (by first | exact hsp1 | exact hsp2 | exact hsq1.mono (by omega) | exact hsq2.mono (by omega)) (by first | exact hsp1 | exact hsp2 | exact hsq1.mono (by omega) | exact hsq2.mono (by omega))) ?_
        rintro w50 h51 _ w47 ⟨yx46, rfl, hG48, hf49⟩
        refine ⟨hG48.rel, ?_⟩
        have hM := St.got (L := []) (hM.call h51) hG48
        simp only [List.cons_append, List.nil_append] at hM
        refine oc rfl rfl (fun w' h' => ct_laws_eqStory _ (yx29 : SV) (ArgX.arg (St.argD (M := []) (hM.call h') (.tail _ (.tail _ (.tail _ (.tail _ (.tail _ (.tail _ (.tail _ (.tail _ (.tail _ (.tail _ (.head _))))))))))) (.tail _ (.tail _ (.tail _ (.tail _ (.tail _ (.tail _ (.tail _ (.tail _ (.tail _ (.tail _ (.tail _ (.head _)))))))))))) (fun _ => rfl) hroO)) (ArgX.arg (St.argD (M := []) (hM.call h') (.tail _ (.tail _ (.tail _ (.tail _ (.tail _ (.tail _ (.tail _ (.tail _ (.tail _ (.tail _ (.tail _ (.tail _ (.head _))))))))))))) (.tail _ (.tail _ (.tail _ (.tail _ (.tail _ (.tail _ (.tail _ (.tail _ (.tail _ (.tail _ (.tail _ (.tail _ (.tail _ (.head _)))))))))))))) (fun _ => rfl) hroO)) (yx46 : SV) (ArgX.arg (St.argD (M := []) (hM.call h') (.head _) (.tail _ (.head _)) (fun _ => rfl) hroO)) (ArgX.arg (St.argD (M := []) (hM.call h') (.tail _ (.tail _ (.head _))) (.tail _ (.tail _ (.tail _ (.head _)))) (fun _ => rfl) hroO))) ?_
        refine ov rfl (fun w' h' => r_not rfl) ?_
        refine o_nil fun w52 hw53 => ?_
        have hM := hM.call hw53
        refine sq_n ?_
        refine wc_cond rfl (fun hc54 => ?_) (fun hc54 => ?_)
        · skip
          have hc54 := bnot_t hc54
          have hc54 := of_decide_eq_false hc54
          exact absurd hc54 (by first | omega | (intro hn; exact hn rfl) | (simp; done) | (simp; omega) | (intro hn; exact hn (by simp only [hf18, hf24, hf32, hf39, hf49])) | (simp [hf18, hf24, hf32, hf39, hf49]; done))
        · skip
          have hc54 := bnot_f hc54
          have hc54 := of_decide_eq_true hc54
          refine wc_skip ?_
          refine sq_n ?_
          refine wc_seq ?_
          refine wc_seq ?_
          refine wc_draw [(0, false), (1, false), (2, true), (3, false), (4, false)] Try_mixed (by kernel_rfl) rfl (by kernel_rfl) rfl ?_
          refine ov rfl (fun w' h' => r_ldBS Try.underlying35 sz35 rfl (cs := [(.int .i64 yx36.n), yx36.uv.v, yx36.rv.v]) rfl ((hM.call h').at' (.tail _ (.tail _ (.tail _ (.tail _ (.head _))))))) ?_
          refine ov rfl (fun w' h' => r_ldBS Try.underlying30 sz30 rfl (cs := [(.int .i64 aQ.n), aQ.uv.v, aQ.rv.v]) rfl ((hM.call h').at' (.tail _ (.tail _ (.tail _ (.tail _ (.tail _ (.tail _ (.tail _ (.tail _ (.tail _ (.tail _ (.tail _ (.tail _ (.tail _ (.tail _ (.tail _ (.tail _ (.tail _ (.tail _ (.tail _ (.tail _ (.tail _ (.tail _ (.head _))))))))))))))))))))))))) ?_
          refine o_forced rfl rfl (fun w' h' => ct_laws_toStory w' (aQ : SV) (St.argx (L := []) (hM.call h') (.tail _ (.head _))) (St.argx (L := []) (hM.call h') (.head _)) (by first | exact hsp1 | exact hsp2 | exact hsq1.mono (by omega) | exact hsq2.mono (by omega)) (by first | exact hsp1 | exact hsp2 | exact hsq1.mono (by omega) | exact hsq2.mono (by omega))) ?_
          rintro w59 h60 _ w56 ⟨yx55, rfl, hG57, hf58⟩
          refine ⟨hG57.rel, ?_⟩
          have hM := St.got (L := []) (hM.call h60) hG57
          simp only [List.cons_append, List.nil_append] at hM
          refine oc rfl rfl (fun w' h' => ct_laws_eqStory _ (yx36 : SV) (ArgX.arg (St.argD (M := []) (hM.call h') (.tail _ (.tail _ (.tail _ (.tail _ (.tail _ (.tail _ (.tail _ (.tail _ (.tail _ (.head _)))))))))) (.tail _ (.tail _ (.tail _ (.tail _ (.tail _ (.tail _ (.tail _ (.tail _ (.tail _ (.tail _ (.head _))))))))))) (fun _ => rfl) hroO)) (ArgX.arg (St.argD (M := []) (hM.call h') (.tail _ (.tail _ (.tail _ (.tail _ (.tail _ (.tail _ (.tail _ (.tail _ (.tail _ (.tail _ (.tail _ (.head _)))))))))))) (.tail _ (.tail _ (.tail _ (.tail _ (.tail _ (.tail _ (.tail _ (.tail _ (.tail _ (.tail _ (.tail _ (.tail _ (.head _))))))))))))) (fun _ => rfl) hroO)) (yx55 : SV) (ArgX.arg (St.argD (M := []) (hM.call h') (.head _) (.tail _ (.head _)) (fun _ => rfl) hroO)) (ArgX.arg (St.argD (M := []) (hM.call h') (.tail _ (.tail _ (.head _))) (.tail _ (.tail _ (.tail _ (.head _)))) (fun _ => rfl) hroO))) ?_
          refine ov rfl (fun w' h' => r_not rfl) ?_
          refine o_nil fun w61 hw62 => ?_
          have hM := hM.call hw62
          refine sq_n ?_
          refine wc_cond rfl (fun hc63 => ?_) (fun hc63 => ?_)
          · skip
            have hc63 := bnot_t hc63
            have hc63 := of_decide_eq_false hc63
            exact absurd hc63 (by first | omega | (intro hn; exact hn rfl) | (simp; done) | (simp; omega) | (intro hn; exact hn (by simp only [hf18, hf24, hf32, hf39, hf49, hf58])) | (simp [hf18, hf24, hf32, hf39, hf49, hf58]; done))
          · skip
            have hc63 := bnot_f hc63
            have hc63 := of_decide_eq_true hc63
            refine wc_skip ?_
            refine sq_n ?_
            refine wc_seq ?_
            refine wc_region ?_
            refine wv rfl (r_assign rfl) ?_
            refine wl_nil ?_
            refine sq_n ?_
            refine wc_ret ?_
            refine fin_ret [(.bool true)] ⟨rfl, trivial⟩ ?_
            exact ⟨rfl, St.gives (O := []) hM⟩

end Go.Proofs.Ythnnhoabdhhkaaa
