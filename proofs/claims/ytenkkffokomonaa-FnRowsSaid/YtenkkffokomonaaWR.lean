/- Walks of functions of this program (printed by a program of ours, by the rules of the layer). No condition. -/
import Derived.Test.YtenkkffokomonaaWC
import Derived.Test.YtenkkffokomonaaWD
import Derived.Test.YtenkkffokomonaaMathR
namespace Go.Proofs.Ytenkkffokomonaa
open Go.RowKit

theorem ct_slices_Equal_int (w : World) (v_a : Value) (a : List Int) (a_a : Arg w [v_a] (dFs 1 fI a)) (v_b : Value) (b : List Int) (a_b : Arg w [v_b] (dFs 1 fI b)) : Ret Try.prog 54 [v_a, v_b] w (fun u w' => u = .bool (decide (a = b)) ∧ Rel w w') := by
  refine enter Try.func54 rfl Try.ntmps54 (by kernel_rfl) rfl ?_
  have hM := St.init w
  have hM := hM.addA a_a
  have hl_a := Fs.le a_a
  have hM := hM.addA a_b
  have hl_b := Fs.le a_b
  refine wc_seq ?_
  refine wc_region ?_
  refine wv rfl (r_assign rfl) ?_
  refine wl_nil ?_
  refine sq_n ?_
  refine wc_seq ?_
  refine wc_seq ?_
  refine wc_region ?_
  refine wv rfl (r_move rfl) ?_
  refine wv rfl (r_lenF Try.underlying29 rfl (hM.arg (.tail _ (.head _)))) ?_
  refine wv rfl (r_move rfl) ?_
  refine wv rfl (r_lenF Try.underlying29 rfl (hM.arg (.head _))) ?_
  refine wv rfl (r_neq rfl rfl) ?_
  refine wl_nil ?_
  refine sq_n ?_
  refine wc_cond rfl (fun hc1 => ?_) (fun hc1 => ?_)
  · skip
    have hc1 := bnot_t hc1
    have hc1 := of_decide_eq_false hc1
    refine wc_seq ?_
    refine wc_region ?_
    refine wv rfl (r_assign rfl) ?_
    refine wl_nil ?_
    refine sq_n ?_
    refine wc_ret ?_
    refine sq_ret ?_
    refine fin_ret [(.bool false)] ⟨rfl, trivial⟩ ?_
    exact ⟨vbool ((decide_eq_false (fun e => by subst e; exact absurd rfl (by assumption))).symm), hM.rel⟩
  · skip
    have hc1 := bnot_f hc1
    have hc1 := of_decide_eq_true hc1
    refine wc_skip ?_
    refine sq_n ?_
    refine wc_seq ?_
    refine wc_seq ?_
    refine wc_region ?_
    refine wv rfl (r_move rfl) ?_
    refine wv rfl (r_lenF Try.underlying29 rfl (hM.arg (.tail _ (.head _)))) ?_
    refine wv rfl (r_move rfl) ?_
    refine wl_nil ?_
    refine sq_n ?_
    refine wc_block ?_
    refine wc_loop1 (fun (k : Nat) => [(0, v_a), (1, v_b), (12, (.int .i64 (a.length : Int))), (13, (.int .i64 (k : Int)))]) (fun (k : Nat) w' => St (b0 w) [] [([v_b], dFs 1 fI b), ([v_a], dFs 1 fI a)] w' ∧ k ≤ a.length ∧ a.take k = b.take k) (fun (k : Nat) => a.length - k) 0 ⟨rfl, rfl, rfl, rfl, trivial⟩ ⟨hM, (by omega), (rfl)⟩ ?_
    rintro k w2 ⟨hM, hf0_0, hf0_1⟩
    refine wc_seq ?_
    refine wc_region ?_
    refine wv rfl (r_lss rfl rfl) ?_
    refine wl_nil ?_
    refine sq_n ?_
    refine wc_seq ?_
    refine wc_cond rfl (fun hc3 => ?_) (fun hc3 => ?_)
    · skip
      have hc3 := of_decide_eq_true hc3
      refine wc_skip ?_
      refine sq_n ?_
      refine wc_seq ?_
      refine wc_block ?_
      refine wc_seq ?_
      refine wc_region ?_
      refine wv rfl (r_move rfl) ?_
      refine wv rfl (r_assign rfl) ?_
      refine wl_nil ?_
      refine sq_n ?_
      refine wc_seq ?_
      refine wc_draw [(0, false), (1, false), (2, false), (3, false), (4, false), (5, false), (6, false), (7, false), (8, false)] Try_mixed (by kernel_rfl) rfl (by kernel_rfl) rfl ?_
      refine ov rfl (fun w' h' => r_move rfl) ?_
      refine ov rfl (fun w' h' => r_move rfl) ?_
      refine ov rfl (fun w' h' => r_ixF Try.underlying29 sz3 rfl rfl ((hM.call h').arg (.tail _ (.head _))) ⟨by omega, by omega⟩) ?_
      refine ov rfl (fun w' h' => r_ldF0 (i := k) 0 Try.underlying3 rfl rfl ((hM.call h').arg (.tail _ (.head _))) (by omega) rfl) ?_
      refine ov rfl (fun w' h' => r_move rfl) ?_
      refine ov rfl (fun w' h' => r_move rfl) ?_
      refine ov rfl (fun w' h' => r_ixF Try.underlying29 sz3 rfl rfl ((hM.call h').arg (.head _)) ⟨by omega, by omega⟩) ?_
      refine ov rfl (fun w' h' => r_ldF0 (i := k) 0 Try.underlying3 rfl rfl ((hM.call h').arg (.head _)) (by omega) rfl) ?_
      refine ov rfl (fun w' h' => r_neq rfl rfl) ?_
      refine o_nil fun w4 hw5 => ?_
      have hM := hM.call hw5
      refine sq_n ?_
      refine wc_cond rfl (fun hc6 => ?_) (fun hc6 => ?_)
      · skip
        have hc6 := bnot_t hc6
        have hc6 := of_decide_eq_false hc6
        refine wc_seq ?_
        refine wc_region ?_
        refine wv rfl (r_assign rfl) ?_
        refine wl_nil ?_
        refine sq_n ?_
        refine wc_ret ?_
        refine bk_ret ?_
        refine sq_ret ?_
        refine lp1_ret ?_
        refine bk_ret ?_
        refine sq_ret ?_
        refine fin_ret [(.bool false)] ⟨rfl, trivial⟩ ?_
        exact ⟨vbool ((decide_eq_false (fun e => by subst e; exact absurd rfl (by assumption))).symm), hM.rel⟩
      · skip
        have hc6 := bnot_f hc6
        have hc6 := of_decide_eq_true hc6
        refine wc_skip ?_
        refine bk_n ?_
        refine sq_n ?_
        refine wc_region ?_
        refine wv rfl (r_add rfl rfl ⟨by omega, by omega⟩) ?_
        refine wv rfl (r_move rfl) ?_
        refine wl_nil ?_
        exact lp_end1 (k + 1) (by omega) ⟨rfl, rfl, rfl, rfl, trivial⟩ ⟨hM, (by omega), (take_eq_step (by omega) (by omega) (by assumption) (by assumption))⟩
    · skip
      have hc3 := of_decide_eq_false hc3
      refine wc_exit ?_
      refine sq_exit ?_
      refine lp1_exit ?_
      refine bk_here ?_
      refine sq_n ?_
      refine wc_seq ?_
      refine wc_region ?_
      refine wv rfl (r_assign rfl) ?_
      refine wl_nil ?_
      refine sq_n ?_
      refine wc_ret ?_
      refine fin_ret [(.bool true)] ⟨rfl, trivial⟩ ?_
      exact ⟨vbool ((decide_eq_true (take_eq_end (k := k) (by omega) (by omega) (by assumption))).symm), hM.rel⟩

theorem ct_impl_SignsSame (w : World) (v_a : Value) (a : List Int) (a_a : Arg w [v_a] (dFs 1 fI a)) (v_b : Value) (b : List Int) (a_b : Arg w [v_b] (dFs 1 fI b)) : Ret Try.prog 40 [v_a, v_b] w (fun u w' => u = .bool (decide (a = b)) ∧ Rel w w') := by
  refine enter Try.func40 rfl Try.ntmps40 (by kernel_rfl) rfl ?_
  have hM := St.init w
  have hM := hM.addA a_a
  have hl_a := Fs.le a_a
  have hM := hM.addA a_b
  have hl_b := Fs.le a_b
  refine wc_seq ?_
  refine wc_region ?_
  refine wv rfl (r_assign rfl) ?_
  refine wl_nil ?_
  refine sq_n ?_
  refine wc_seq ?_
  refine wc_region ?_
  refine wv rfl (r_move rfl) ?_
  refine wv rfl (r_move rfl) ?_
  refine w_call rfl rfl (ct_slices_Equal_int _ _ a (hM.arg (.tail _ (.head _))) _ b (hM.arg (.head _))) ?_
  rintro _ w1 ⟨rfl, hR2⟩
  have hM := hM.call hR2
  refine wv rfl (r_assign rfl) ?_
  refine wl_nil ?_
  refine sq_n ?_
  refine wc_ret ?_
  refine fin_ret [(.bool (decide (a = b)))] ⟨rfl, trivial⟩ ?_
  exact ⟨vbool (by simp), hM.rel⟩

theorem ct_laws_FnRows (w : World) (v_aCode : Sv) (aCode : List UInt8) (a_aCode : ArgX (oStar []).fp w [v_aCode.v] (dFs 1 fB aCode)) : Ret Try.prog 11 [v_aCode.v] w (fun u w' => u = .bool true ∧ Gives (oStar []).fp w [] w') := by
  refine enter Try.func11 rfl Try.ntmps11 (by kernel_rfl) rfl ?_
  have hM := St.enter0 w
  have hM := hM.addE (cs := [v_aCode.v]) (d := dFs 1 fB aCode) a_aCode
  have hl_aCode := Fs.le a_aCode
  refine wc_seq ?_
  refine wc_region ?_
  refine wv rfl (r_assign rfl) ?_
  refine wl_nil ?_
  refine sq_n ?_
  refine wc_seq ?_
  refine wc_seq ?_
  refine wc_region ?_
  refine wv rfl (r_move rfl) ?_
  refine wv rfl (r_lenF Try.underlying44 rfl (hM.arg (.head _))) ?_
  refine wv rfl (r_gtr rfl rfl) ?_
  refine wl_nil ?_
  refine sq_n ?_
  refine wc_cond rfl (fun hc1 => ?_) (fun hc1 => ?_)
  · skip
    have hc1 := of_decide_eq_true hc1
    refine wc_seq ?_
    refine wc_region ?_
    refine wv rfl (r_assign rfl) ?_
    refine wl_nil ?_
    refine sq_n ?_
    refine wc_ret ?_
    refine sq_ret ?_
    refine fin_ret [(.bool true)] ⟨rfl, trivial⟩ ?_
    exact ⟨rfl, St.gives (O := []) hM⟩
  · skip
    have hc1 := of_decide_eq_false hc1
    refine wc_skip ?_
    refine sq_n ?_
    refine wc_seq ?_
    refine wc_region ?_
    refine wv rfl (r_move rfl) ?_
    refine w_call rfl rfl (ct_spec_MakeRows w _ aCode (St.argx (L := []) hM (.head _))) ?_
    rintro _ w3 ⟨t, y0x2, rfl, hG4, hf5⟩
    have hM := St.got (L := []) hM hG4
    simp only [List.cons_append, List.nil_append] at hM
    have hM := hM.sealO (fun _ => rfl)
    have htx := made_ok hf5.1 hf5.2
    have htl : t.length ≤ 13 := hf5.1
    have hrp := rows_pos htx
    have hrl := rows_len_le t
    refine wv rfl (r_assign rfl) ?_
    refine wl_nil ?_
    refine sq_n ?_
    refine wc_seq ?_
    refine wc_region ?_
    refine wv rfl (r_move rfl) ?_
    refine w_call rfl rfl (ct_impl_RowCount _ _ t (hM.arg (.head _))) ?_
    rintro _ w6 ⟨rfl, hR7⟩
    have hM := hM.call hR7
    refine wv rfl (r_assign rfl) ?_
    refine wl_nil ?_
    refine sq_n ?_
    refine wc_seq ?_
    refine wc_region ?_
    refine w_emptyF (f := fI) rfl Try.underlying29 sz3 hM ?_; intro v9 w8 hM
    obtain ⟨v9, rfl⟩ := Of.sv hM.top
    refine wv rfl (r_assign rfl) ?_
    refine wl_nil ?_
    refine sq_n ?_
    refine wc_seq ?_
    refine wc_seq ?_
    refine wc_region ?_
    refine wv rfl (r_assign rfl) ?_
    refine wl_nil ?_
    refine sq_n ?_
    refine wc_block ?_
    refine wc_loop2 (fun (i : Nat) (v : Sv) => [(3, y0x2.v), (4, (.int .i64 ((rows t).length : Int))), (5, v.v), (6, (.int .i64 (i : Int)))]) (fun (i : Nat) (v : Sv) w' => St ⟨w, (oStar []).fp⟩ [oF v.v 3 1 fI (soFar t i)] [([y0x2.v], dFs 1 fI t), ([v_aCode.v], dFs 1 fB aCode)] w' ∧ i ≤ (rows t).length) (fun (i : Nat) (v : Sv) => (rows t).length - i) 0 v9 ⟨rfl, rfl, rfl, rfl, trivial⟩ ⟨hM, (by omega)⟩ ?_
    rintro i v w11 ⟨hM, hf0_0⟩
    have hsl := soFar_len t i
    have hsr := rowSigns_len t (i : Int)
    refine wc_seq ?_
    refine wc_seq ?_
    refine wc_region ?_
    refine wv rfl (r_move rfl) ?_
    refine wv rfl (r_move rfl) ?_
    refine wv rfl (r_lss rfl rfl) ?_
    refine wl_nil ?_
    refine sq_n ?_
    refine wc_cond rfl (fun hc12 => ?_) (fun hc12 => ?_)
    · skip
      have hc12 := of_decide_eq_true hc12
      refine wc_skip ?_
      refine sq_n ?_
      refine wc_seq ?_
      refine wc_block ?_
      refine wc_seq ?_
      refine wc_region ?_
      refine wv rfl (r_move rfl) ?_
      refine wv rfl (r_move rfl) ?_
      refine w_call rfl rfl (ct_impl_RowSigns _ _ t (hM.arg (.head _)) (i : Int)) ?_
      rintro _ w13 ⟨v14, rfl, hR15, hov14⟩
      have hM := hM.gain hR15 hov14
      obtain ⟨v14, rfl⟩ := Of.sv hM.top
      have hM := hM.sealO (fun _ => rfl)
      refine wv rfl (r_move rfl) ?_
      refine wv rfl (r_extract rfl rfl) ?_
      refine wv rfl (r_extract rfl rfl) ?_
      refine wv rfl (r_assign rfl) ?_
      refine wv rfl (r_assign rfl) ?_
      refine wl_nil ?_
      refine sq_n ?_
      refine wc_seq ?_
      refine wc_seq ?_
      refine wc_region ?_
      refine wv rfl (r_move rfl) ?_
      refine wv rfl (r_not rfl) ?_
      refine wl_nil ?_
      refine sq_n ?_
      refine wc_cond rfl (fun hc16 => ?_) (fun hc16 => ?_)
      · skip
        have hc16 := bnot_t hc16
        rw [rs_ok (by omega)] at hc16; cases hc16
      · skip
        have hc16 := bnot_f hc16
        refine wc_skip ?_
        refine sq_n ?_
        refine wc_seq ?_
        refine wc_seq ?_
        refine wc_region ?_
        refine wv rfl (r_move rfl) ?_
        refine wv rfl (r_gtr rfl rfl) ?_
        refine wl_nil ?_
        refine sq_n ?_
        refine wc_cond rfl (fun hc17 => ?_) (fun hc17 => ?_)
        · skip
          have hc17 := of_decide_eq_true hc17
          refine wc_region ?_
          refine wv rfl (r_move rfl) ?_
          refine w_pushF (f := fI) 10 rfl rfl Try.underlying29 sz3 rfl rfl rfl rfl rfl (fun _ => rfl) hM (by simp [maxLen]; omega) (by first | omega | (simp; omega)) ?_; intro u20 v19 w18 hM
          obtain ⟨v19, rfl⟩ := Of.sv hM.top
          refine wv rfl (r_assign rfl) ?_
          refine wl_nil ?_
          refine sq_n ?_
          refine wc_region ?_
          refine wv rfl (r_move rfl) ?_
          refine wv rfl (r_move rfl) ?_
          refine w_appendF rfl Try.underlying29 sz3 (fun _ => rfl) rfl rfl (hM.see (.head _)) hM (fun _ => rfl) (by simp [maxLen]; omega) (by first | omega | (simp; omega)) ?_; intro v22 w21 hM
          obtain ⟨v22, rfl⟩ := Of.sv hM.top
          refine wv rfl (r_assign rfl) ?_
          refine wl_nil ?_
          refine bk_n ?_
          refine sq_n ?_
          refine wc_region ?_
          refine wv rfl (r_move rfl) ?_
          refine wv rfl (r_add rfl rfl ⟨by omega, by omega⟩) ?_
          refine wv rfl (r_assign rfl) ?_
          refine wl_nil ?_
          have hM := hM.lessR
          exact lp_end2 (i + 1) v22 (by omega) ⟨rfl, rfl, rfl, rfl, trivial⟩ ⟨(hM.reL (soFar_step htx (by omega) (by omega))), (by omega)⟩
        · skip
          have hc17 := of_decide_eq_false hc17
          refine wc_skip ?_
          refine sq_n ?_
          refine wc_region ?_
          refine wv rfl (r_move rfl) ?_
          refine wv rfl (r_move rfl) ?_
          refine w_appendF rfl Try.underlying29 sz3 (fun _ => rfl) rfl rfl (hM.see (.head _)) hM (fun _ => rfl) (by simp [maxLen]; omega) (by first | omega | (simp; omega)) ?_; intro v24 w23 hM
          obtain ⟨v24, rfl⟩ := Of.sv hM.top
          refine wv rfl (r_assign rfl) ?_
          refine wl_nil ?_
          refine bk_n ?_
          refine sq_n ?_
          refine wc_region ?_
          refine wv rfl (r_move rfl) ?_
          refine wv rfl (r_add rfl rfl ⟨by omega, by omega⟩) ?_
          refine wv rfl (r_assign rfl) ?_
          refine wl_nil ?_
          have hM := hM.lessR
          exact lp_end2 (i + 1) v24 (by omega) ⟨rfl, rfl, rfl, rfl, trivial⟩ ⟨(by obtain rfl : i = 0 := (by omega); exact hM.reL (soFar_step0 htx)), (by omega)⟩
    · skip
      have hc12 := of_decide_eq_false hc12
      refine wc_exit ?_
      refine sq_exit ?_
      refine lp2_exit ?_
      refine bk_here ?_
      refine sq_n ?_
      refine wc_seq ?_
      refine wc_seq ?_
      refine wc_region ?_
      refine wv rfl (r_assign rfl) ?_
      refine wl_nil ?_
      refine sq_n ?_
      refine wc_block ?_
      refine wc_loop1 (fun (a : Nat) => [(3, y0x2.v), (4, (.int .i64 ((rows t).length : Int))), (5, v.v), (9, (.int .i64 (a : Int)))]) (fun (a : Nat) w' => St ⟨w, (oStar []).fp⟩ [oF v.v 3 1 fI (soFar t i)] [([y0x2.v], dFs 1 fI t), ([v_aCode.v], dFs 1 fB aCode)] w' ∧ a ≤ t.length + 1) (fun (a : Nat) => t.length + 1 - a) 0 ⟨rfl, rfl, rfl, rfl, trivial⟩ ⟨hM, (by omega)⟩ ?_
      rintro a w25 ⟨hM, hf1_0⟩
      refine wc_seq ?_
      refine wc_seq ?_
      refine wc_region ?_
      refine wv rfl (r_move rfl) ?_
      refine wv rfl (r_move rfl) ?_
      refine wv rfl (r_lenF Try.underlying29 rfl (hM.arg (.head _))) ?_
      refine wv rfl (r_leq rfl rfl) ?_
      refine wl_nil ?_
      refine sq_n ?_
      refine wc_cond rfl (fun hc26 => ?_) (fun hc26 => ?_)
      · skip
        have hc26 := of_decide_eq_true hc26
        refine wc_skip ?_
        refine sq_n ?_
        refine wc_seq ?_
        refine wc_block ?_
        refine wc_seq ?_
        refine wc_region ?_
        refine wv rfl (r_move rfl) ?_
        refine wv rfl (r_move rfl) ?_
        refine w_call rfl rfl (ct_impl_RowOf _ _ t (hM.arg (.head _)) (a : Int)) ?_
        rintro _ w27 ⟨rfl, hR28⟩
        have hM := hM.call hR28
        refine wv rfl (r_move rfl) ?_
        refine wv rfl (r_extract rfl rfl) ?_
        refine wv rfl (r_extract rfl rfl) ?_
        refine wv rfl (r_extract rfl rfl) ?_
        refine wv rfl (r_assign rfl) ?_
        refine wv rfl (r_assign rfl) ?_
        refine wv rfl (r_assign rfl) ?_
        refine wl_nil ?_
        refine sq_n ?_
        refine wc_seq ?_
        refine wc_region ?_
        refine wv rfl (r_move rfl) ?_
        refine wv rfl (r_move rfl) ?_
        refine wv rfl (r_move rfl) ?_
        refine w_call rfl rfl (ct_impl_PlaceOf _ _ t (hM.arg (.head _)) ((rowOf t (a : Int)).1) ((rowOf t (a : Int)).2.1)) ?_
        rintro _ w29 ⟨rfl, hR30⟩
        have hM := hM.call hR30
        refine wv rfl (r_move rfl) ?_
        refine wv rfl (r_extract rfl rfl) ?_
        refine wv rfl (r_extract rfl rfl) ?_
        refine wv rfl (r_assign rfl) ?_
        refine wv rfl (r_assign rfl) ?_
        refine wl_nil ?_
        refine sq_n ?_
        refine wc_seq ?_
        refine wc_region ?_
        refine wv rfl (r_move rfl) ?_
        refine wv rfl (r_not rfl) ?_
        refine wv rfl (r_move rfl) ?_
        refine wl_mid 3 (fun _ : Unit => [(69, (.bool ((!((rowOf t (a : Int)).2.2)) || (!((placeOf t ((rowOf t (a : Int)).1) ((rowOf t (a : Int)).2.1)).2))))), (3, y0x2.v), (4, (.int .i64 ((rows t).length : Int))), (5, v.v), (9, (.int .i64 (a : Int))), (13, (.int .i64 ((placeOf t ((rowOf t (a : Int)).1) ((rowOf t (a : Int)).2.1)).1)))]) (fun _ w' => St ⟨w, (oStar []).fp⟩ [oF v.v 3 1 fI (soFar t i)] [([y0x2.v], dFs 1 fI t), ([v_aCode.v], dFs 1 fB aCode)] w') ?_ ?_
        · rcases Bool.eq_false_or_eq_true (!((rowOf t (a : Int)).2.2)) with hg31 | hg31
          · skip
            refine gs rfl (isB_no hg31) rfl ?_
            refine gs rfl (isB_no hg31) rfl ?_
            refine wv rfl (p_t rfl hg31 rfl) ?_
            exact mid_nil () ⟨bcongr (or_t hg31), rfl, rfl, rfl, rfl, rfl, trivial⟩ hM
          · skip
            refine gv rfl hg31 rfl (r_move rfl) ?_
            refine gv rfl hg31 rfl (r_not rfl) ?_
            refine wv rfl (p_f rfl hg31 rfl) ?_
            exact mid_nil () ⟨bcongr (or_f hg31), rfl, rfl, rfl, rfl, rfl, trivial⟩ hM
        rintro _ w32 hM
        refine wv rfl (r_move rfl) ?_
        refine wl_mid 4 (fun _ : Unit => [(74, (.bool (((!((rowOf t (a : Int)).2.2)) || (!((placeOf t ((rowOf t (a : Int)).1) ((rowOf t (a : Int)).2.1)).2))) || (!(decide (((placeOf t ((rowOf t (a : Int)).1) ((rowOf t (a : Int)).2.1)).1) = (a : Int))))))), (3, y0x2.v), (4, (.int .i64 ((rows t).length : Int))), (5, v.v), (9, (.int .i64 (a : Int)))]) (fun _ w' => St ⟨w, (oStar []).fp⟩ [oF v.v 3 1 fI (soFar t i)] [([y0x2.v], dFs 1 fI t), ([v_aCode.v], dFs 1 fB aCode)] w') ?_ ?_
        · rcases Bool.eq_false_or_eq_true ((!((rowOf t (a : Int)).2.2)) || (!((placeOf t ((rowOf t (a : Int)).1) ((rowOf t (a : Int)).2.1)).2))) with hg33 | hg33
          · skip
            refine gs rfl (isB_no hg33) rfl ?_
            refine gs rfl (isB_no hg33) rfl ?_
            refine gs rfl (isB_no hg33) rfl ?_
            refine wv rfl (p_t rfl hg33 rfl) ?_
            exact mid_nil () ⟨bcongr (or_t hg33), rfl, rfl, rfl, rfl, trivial⟩ hM
          · skip
            refine gv rfl hg33 rfl (r_move rfl) ?_
            refine gv rfl hg33 rfl (r_move rfl) ?_
            refine gv rfl hg33 rfl (r_neq rfl rfl) ?_
            refine wv rfl (p_f rfl hg33 rfl) ?_
            exact mid_nil () ⟨bcongr (or_f hg33), rfl, rfl, rfl, rfl, trivial⟩ hM
        rintro _ w34 hM
        refine wl_nil ?_
        refine sq_n ?_
        refine wc_cond rfl (fun hc35 => ?_) (fun hc35 => ?_)
        · skip
          have hb := rowOf_back htx (p := a) (by omega)
          simp [hb.1, hb.2] at hc35
        · skip
          obtain ⟨hc35a, hc35b⟩ := (Bool.or_eq_false_iff).1 hc35
          obtain ⟨hc35aa, hc35ab⟩ := (Bool.or_eq_false_iff).1 hc35a
          have hc35aa := bnot_f hc35aa
          have hc35ab := bnot_f hc35ab
          have hc35b := bnot_f hc35b
          have hc35b := of_decide_eq_true hc35b
          refine wc_skip ?_
          refine bk_n ?_
          refine sq_n ?_
          refine wc_region ?_
          refine wv rfl (r_move rfl) ?_
          refine wv rfl (r_add rfl rfl ⟨by omega, by omega⟩) ?_
          refine wv rfl (r_assign rfl) ?_
          refine wl_nil ?_
          exact lp_end1 (a + 1) (by omega) ⟨rfl, rfl, rfl, rfl, trivial⟩ ⟨hM, (by omega)⟩
      · skip
        have hc26 := of_decide_eq_false hc26
        refine wc_exit ?_
        refine sq_exit ?_
        refine lp1_exit ?_
        refine bk_here ?_
        refine sq_n ?_
        refine wc_seq ?_
        refine wc_region ?_
        refine wv rfl (r_move rfl) ?_
        refine wv rfl (r_move rfl) ?_
        refine w_call rfl rfl (ct_impl_SignsSame _ _ (soFar t i) (Of.arg (hM.at' (.head _)) (fun _ => rfl)) _ t (hM.arg (.head _))) ?_
        rintro _ w36 ⟨rfl, hR37⟩
        have hM := hM.call hR37
        refine wv rfl (r_move rfl) ?_
        refine wl_mid 6 (fun _ : Unit => [(84, (.bool ((decide ((soFar t i) = t)) && (decide (((rows t).length : Int) = ((rows t).length : Int)))))), (4, (.int .i64 ((rows t).length : Int)))]) (fun _ w' => St ⟨w, (oStar []).fp⟩ [oF v.v 3 1 fI (soFar t i)] [([y0x2.v], dFs 1 fI t), ([v_aCode.v], dFs 1 fB aCode)] w') ?_ ?_
        · rcases Bool.eq_false_or_eq_true (decide ((soFar t i) = t)) with hg38 | hg38
          · skip
            have hg38p := of_decide_eq_true hg38
            refine gv rfl hg38 rfl (r_move rfl) ?_
            refine gv rfl hg38 rfl (r_move rfl) ?_
            refine gc rfl hg38 rfl rfl (ct_impl_Rows _ _ t (hM.arg (.head _))) ?_
            rintro v40 w39 ⟨hR41, hov40⟩
            have hM := hM.gain hR41 hov40
            obtain ⟨v40, rfl⟩ := Of.sv hM.top
            have hM := hM.sealO (fun _ => rfl)
            refine gv rfl hg38 rfl (r_lenF Try.underlying29 rfl (hM.arg (.head _))) ?_
            refine gv rfl hg38 rfl (r_eql rfl rfl) ?_
            refine wv rfl (p_t rfl hg38 rfl) ?_
            have hM := hM.lessR
            exact mid_nil () ⟨bcongr (and_t hg38), rfl, trivial⟩ hM
          · skip
            have hg38p := of_decide_eq_false hg38
            refine gs rfl (isB_no hg38) rfl ?_
            refine gs rfl (isB_no hg38) rfl ?_
            refine gs rfl (isB_no hg38) rfl ?_
            refine gs rfl (isB_no hg38) rfl ?_
            refine gs rfl (isB_no hg38) rfl ?_
            refine wv rfl (p_f rfl hg38 rfl) ?_
            exact mid_nil () ⟨bcongr (and_f hg38), rfl, trivial⟩ hM
        rintro _ w42 hM
        refine wv rfl (r_move rfl) ?_
        refine wl_mid 3 (fun _ : Unit => [(88, (.bool (((decide ((soFar t i) = t)) && (decide (((rows t).length : Int) = ((rows t).length : Int)))) && (decide (1 ≤ ((rows t).length : Int))))))]) (fun _ w' => St ⟨w, (oStar []).fp⟩ [oF v.v 3 1 fI (soFar t i)] [([y0x2.v], dFs 1 fI t), ([v_aCode.v], dFs 1 fB aCode)] w') ?_ ?_
        · rcases Bool.eq_false_or_eq_true ((decide ((soFar t i) = t)) && (decide (((rows t).length : Int) = ((rows t).length : Int)))) with hg43 | hg43
          · skip
            refine gv rfl hg43 rfl (r_move rfl) ?_
            refine gv rfl hg43 rfl (r_geq rfl rfl) ?_
            refine wv rfl (p_t rfl hg43 rfl) ?_
            exact mid_nil () ⟨bcongr (and_t hg43), trivial⟩ hM
          · skip
            refine gs rfl (isB_no hg43) rfl ?_
            refine gs rfl (isB_no hg43) rfl ?_
            refine wv rfl (p_f rfl hg43 rfl) ?_
            exact mid_nil () ⟨bcongr (and_f hg43), trivial⟩ hM
        rintro _ w44 hM
        refine wv rfl (r_assign rfl) ?_
        refine wl_nil ?_
        refine sq_n ?_
        refine wc_ret ?_
        refine fin_ret [(.bool (((decide ((soFar t i) = t)) && (decide (((rows t).length : Int) = ((rows t).length : Int)))) && (decide (1 ≤ ((rows t).length : Int)))))] ⟨rfl, trivial⟩ ?_
        exact ⟨vbool (by rw [soFar_end htx (by omega)]; simp; omega), St.gives (O := []) hM⟩

end Go.Proofs.Ytenkkffokomonaa
