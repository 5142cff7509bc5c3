/- Walks of functions of this program (printed by a program of ours, by the rules of the layer). No condition. -/
import Derived.Test.YtdfjkipdmeomdaaG4
import Derived.Test.YtdfjkipdmeomdaaNr
namespace Go.Proofs.Ytdfjkipdmeomdaa
open Go.RowKit

noncomputable def x_impl_Rows_b0 (_t : List Int) (k17 : Nat) (x63 : Int) (out18 : List Int) : Option (Lr (List Int) (List Int)) :=
  bif decide (x63 = 10) then (xg (out18.length < 1099511627776) <| some (Lr.go (out18 ++ [(k17 : Int) + 1]))) else (some (Lr.go out18))
noncomputable def x_impl_Rows_f0 (t : List Int) (k17 : Nat) (s64 : List Int) : Option (Lr (List Int) (List Int)) := x_impl_Rows_b0 t k17 (el t k17) s64
noncomputable def x_impl_Rows (t : List Int) : Option (List Int) :=
  Option.bind (x_impl_TextOk t) fun r3 => bif !r3 then (some []) else (Option.bind (eachN (x_impl_Rows_f0 t) (fun (s64 : List Int) => (s64 : List Int)) t.length 0 [0]) fun (y65 : List Int) => some y65)
theorem ct_impl_Rows (w : World) (X S : Bs) (t : List Int) (s_t : Sv) (hS : ∀ b, S b → b < w.heap.size ∧ ¬ X b) (a_t_0 : (cSl 1 fI t).rd S w s_t.v) (oL : Sep [] X w) {r : List Int} (hx : x_impl_Rows t = some r) :
    Ret Try.prog 46 [s_t.v] w (fun u w' => ∃ y : Sv, u = y.v ∧ Gives X S w [oC (cSl 1 fI r) y.v] [] w') := by
  unfold x_impl_Rows at hx
  refine enter Try.func46 rfl Try.ntmps46 (by kernel_rfl) rfl ?_
  have hM := St.enter oL hS
  have hM := hM.addE (r := rV s_t.v (cSl 1 fI t)) a_t_0
  refine wc_seq ?_
  refine wc_region ?_
  refine wv rfl (r_assign rfl) ?_
  refine wl_nil ?_
  refine sq_n ?_
  refine wc_seq ?_
  refine wc_seq ?_
  refine wc_region ?_
  refine wv rfl (r_move rfl) ?_
  obtain ⟨r72, h73, hx⟩ := bind_some' hx
  refine w_call rfl rfl (hM.callV fun X S oL hS hR hO => ct_impl_TextOk _ X S t s_t hS (hR _ (.head _)) oL h73) ?_
  rintro _ w74 ⟨rfl, hR75⟩
  have hM := hM.call hR75
  refine wv rfl (r_not rfl) ?_
  refine wl_nil ?_
  refine sq_n ?_
  refine wc_cond rfl (fun hc77 => ?_) (fun hc77 => ?_)
  · replace hx := xif_t hc77 hx
    refine wc_seq ?_
    refine wc_region ?_
    refine wv rfl (r_assign rfl) ?_
    refine wl_nil ?_
    refine sq_n ?_
    refine wc_ret ?_
    refine sq_ret ?_
    obtain rfl := Option.some.inj hx
    have hM := hM.nil0 (T := Int) 1 fI
    refine fin_ret [nS.v] ⟨rfl, trivial⟩ ?_
    replace hM := hM.t1
    have hM := hM.fewer rsN
    exact ⟨nS, rfl, hM.gives⟩
  · replace hx := xif_f hc77 hx
    refine wc_skip ?_
    refine sq_n ?_
    refine wc_seq ?_
    refine wc_region ?_
    refine w_ex rfl (x_lit (f := fI) (own := []) [0] [(.int .i64 0)] 1 Try.underlying22 sz3 (fun _ => rfl) rfl rfl rfl rfl rfl (by kernel_rfl) (fun _ => zP (pV _ rfl) zN) hM ?_); intro s81 w80 hR82 hM
    refine wv rfl (r_assign rfl) ?_
    refine wl_nil ?_
    refine sq_n ?_
    refine wc_seq ?_
    refine wc_seq ?_
    refine wc_region ?_
    refine wv rfl (r_move rfl) ?_
    refine wv rfl (r_lenC Try.underlying22 rfl (hM.seeR (.head _))) ?_
    refine wv rfl (r_move rfl) ?_
    refine wl_nil ?_
    refine sq_n ?_
    refine wc_block ?_
    obtain ⟨y88, hx, hx89⟩ := bind_some' hx
    have hl96 := Cs.le (hM.seeR (.head _))
    refine wc_loop (un fun (m93 : Nat) => un fun (k94 : Nat) => un fun (out90 : List Int) => fun (s92 : Sv) => [(3, s92.v), (10, s_t.v), (11, (.int .i64 (t.length : Int))), (12, (.int .i64 (k94 : Int)))]) (un fun (m93 : Nat) => un fun (k94 : Nat) => un fun (out90 : List Int) => fun (s92 : Sv) w' => St ⟨w, X, S⟩ [oC (cSl 1 fI out90) s92.v] [rV s_t.v (cSl 1 fI t)] w' ∧ eachN _ _ m93 k94 out90 = some y88 ∧ k94 + m93 = t.length) (fun p => p.1) (t.length, 0, [0], s81) ⟨rfl, rfl, rfl, rfl, trivial⟩ ⟨hM, hx, Nat.zero_add _⟩ ?_
    rintro ⟨m93, k94, out90, s92⟩ w97 ⟨hM, hx, hk95⟩
    refine wc_seq ?_
    refine wc_region ?_
    refine wv rfl (r_lss rfl rfl) ?_
    refine wl_nil ?_
    refine sq_n ?_
    refine wc_seq ?_
    refine wc_cond rfl (fun hc99 => ?_) (fun hc99 => ?_)
    · replace hc99 := of_decide_eq_true hc99
      obtain ⟨m100, z101, rfl, hk95, hx, hx102⟩ := eachN_step hx hk95 hc99
      unfold x_impl_Rows_f0 x_impl_Rows_b0 at hx
      try dsimp only at hx
      refine wc_skip ?_
      refine sq_n ?_
      refine wc_seq ?_
      refine wc_block ?_
      refine wc_seq ?_
      refine wc_region ?_
      refine wv rfl (r_move rfl) ?_
      have hi105 : k94 < t.length := by omega
      refine wv rfl (r_ixC Try.underlying22 sz3 rfl rfl (hM.seeR (.head _)) ⟨by omega, hc99⟩) ?_
      refine wv rfl (r_ld Try.underlying3 rfl rfl (Cs.get (i := k94) (j := 0) (hM.seeR (.head _)) (fun _ => rfl) hi105 rfl)) ?_
      refine wv rfl (r_assign rfl) ?_
      refine wv rfl (r_assign rfl) ?_
      refine wl_nil ?_
      refine sq_n ?_
      refine wc_seq ?_
      refine wc_region ?_
      refine wv rfl (r_move rfl) ?_
      refine wv rfl (r_eql rfl rfl) ?_
      refine wl_nil ?_
      refine sq_n ?_
      refine wc_cond rfl (fun hc111 => ?_) (fun hc111 => ?_)
      · replace hx := xif_t hc111 hx
        refine wc_region ?_
        refine wv rfl (r_move rfl) ?_
        refine wv rfl (r_move rfl) ?_
        refine wv rfl (r_add rfl rfl ⟨by omega, by omega⟩) ?_
        obtain ⟨hg118, hx⟩ := xg_some hx
        refine w_push (f := fI) ((k94 : Int) + 1) rfl rfl Try.underlying22 sz3 rfl rfl rfl rfl (fun _ => rfl) hM (fun _ => zP (pV _ rfl) zN) rfl hg118 rfl ?_; intro u116 s117 w115 hM
        refine wv rfl (r_assign rfl) ?_
        refine wl_nil ?_
        refine bk_n ?_
        refine sq_n ?_
        refine wc_region ?_
        refine wv rfl (r_add rfl rfl ⟨by omega, by omega⟩) ?_
        refine wv rfl (r_move rfl) ?_
        refine wl_nil ?_
        obtain rfl := Option.some.inj hx
        exact lp_end (m100, k94 + 1, out90 ++ [(k94 : Int) + 1], s117) (Nat.lt_succ_self _) ⟨rfl, rfl, rfl, rfl, trivial⟩ ⟨hM, hx102, hk95⟩
      · replace hx := xif_f hc111 hx
        refine wc_skip ?_
        refine bk_n ?_
        refine sq_n ?_
        refine wc_region ?_
        refine wv rfl (r_add rfl rfl ⟨by omega, by omega⟩) ?_
        refine wv rfl (r_move rfl) ?_
        refine wl_nil ?_
        obtain rfl := Option.some.inj hx
        exact lp_end (m100, k94 + 1, out90, s92) (Nat.lt_succ_self _) ⟨rfl, rfl, rfl, rfl, trivial⟩ ⟨hM, hx102, hk95⟩
    · replace hc99 := of_decide_eq_false hc99
      obtain rfl := eachN_end hx hk95 hc99
      refine wc_exit ?_
      refine sq_exit ?_
      refine lp1_exit ?_
      replace hx := hx89
      try dsimp only [Sum.elim_inl, Sum.elim_inr] at hx
      refine bk_here ?_
      refine sq_n ?_
      refine wc_seq ?_
      refine wc_region ?_
      refine wv rfl (r_move rfl) ?_
      refine wv rfl (r_assign rfl) ?_
      refine wl_nil ?_
      refine sq_n ?_
      refine wc_ret ?_
      obtain rfl := Option.some.inj hx
      refine fin_ret [s92.v] ⟨rfl, trivial⟩ ?_
      replace hM := hM.t1
      have hM := hM.fewer rsN
      exact ⟨s92, rfl, hM.gives⟩

noncomputable def x_impl_RowCount (t : List Int) : Option Int :=
  Option.bind (x_impl_Rows t) fun r3 => some (r3.length : Int)
theorem ct_impl_RowCount (w : World) (X S : Bs) (t : List Int) (s_t : Sv) (hS : ∀ b, S b → b < w.heap.size ∧ ¬ X b) (a_t_0 : (cSl 1 fI t).rd S w s_t.v) (oL : Sep [] X w) {r : Int} (hx : x_impl_RowCount t = some r) :
    Ret Try.prog 22 [s_t.v] w (fun u w' => ∃ _ : Unit, u = (.int .i64 r) ∧ Gives X S w [] [] w') := by
  unfold x_impl_RowCount at hx
  refine enter Try.func22 rfl Try.ntmps22 (by kernel_rfl) rfl ?_
  have hM := St.enter oL hS
  have hM := hM.addE (r := rV s_t.v (cSl 1 fI t)) a_t_0
  refine wc_seq ?_
  refine wc_region ?_
  refine wv rfl (r_assign rfl) ?_
  refine wl_nil ?_
  refine sq_n ?_
  refine wc_seq ?_
  refine wc_region ?_
  refine wv rfl (r_move rfl) ?_
  obtain ⟨r12, h13, hx⟩ := bind_some' hx
  refine w_call rfl rfl (hM.callO (l := []) fun X S oL hS hR hO => ct_impl_Rows _ X S t s_t hS (hR _ (.head _)) oL h13) ?_
  rintro _ w14 ⟨s15, rfl, hM⟩
  replace hM : St ⟨w, X, S⟩ [oC (cSl 1 fI r12) s15.v] [rV s_t.v (cSl 1 fI t)] _ := hM
  refine wv rfl (r_lenC Try.underlying22 rfl (hM.seeO (.head _))) ?_
  refine wv rfl (r_assign rfl) ?_
  refine wl_nil ?_
  refine sq_n ?_
  refine wc_ret ?_
  obtain rfl := Option.some.inj hx
  refine fin_ret [(.int .i64 (r12.length : Int))] ⟨rfl, trivial⟩ ?_
  replace hM := hM.t0
  have hM := hM.fewer rsN
  exact ⟨(), rfl, hM.gives⟩

noncomputable def x_impl_RowsPut (t : List Int) (row : Int) (l : List Int) : Option (List DPart × Bool) :=
  Option.bind (x_impl_TextOk t) fun r4 => Option.bind (bif !r4 then (some true) else (Option.bind (x_impl_RowCount t) fun r25 => Option.bind (x_impl_within row 0 r25) fun r29 => some (!r29))) fun c10 => bif c10 then (some ([], false)) else (Option.bind (x_impl_RowCount t) fun r38 => bif decide (row = r38) then (xg ([10].length + l.length ≤ 1099511627776) <| Option.bind (x_impl_PutAt (t.length : Int) (t.length : Int) ([10] ++ l)) fun r56 => some (r56.1, r56.2)) else (Option.bind (x_impl_Rows t) fun r70 => xg (0 ≤ row ∧ row < (r70.length : Int)) <| Option.bind (x_impl_copyInts l) fun r81 => xg (r81.length + [10].length ≤ 1099511627776) <| Option.bind (x_impl_PutAt (t.length : Int) (el r70 row.toNat) (r81 ++ [10])) fun r100 => some (r100.1, r100.2)))
theorem ct_impl_RowsPut (w : World) (X S : Bs) (t : List Int) (s_t : Sv) (row : Int) (l : List Int) (s_l : Sv) (hS : ∀ b, S b → b < w.heap.size ∧ ¬ X b) (a_t_0 : (cSl 1 fI t).rd S w s_t.v) (a_l_0 : (cSl 1 fI l).rd S w s_l.v) (oL : Sep [] X w) {r : List DPart × Bool} (hx : x_impl_RowsPut t row l = some r) :
    Ret Try.prog 9 [s_t.v, (.int .i64 row), s_l.v] w (fun u w' => ∃ y : Sv, u = .tuple #[y.v, (.bool r.2)] ∧ Gives X S w [oC (cSl 3 fDPart r.1) y.v] [] w') := by
  unfold x_impl_RowsPut at hx
  refine enter Try.func9 rfl Try.ntmps9 (by kernel_rfl) rfl ?_
  have hM := St.enter oL hS
  have hM := hM.addE (r := rV s_t.v (cSl 1 fI t)) a_t_0
  have hM := hM.addE (r := rV s_l.v (cSl 1 fI l)) a_l_0
  refine wc_seq ?_
  refine wc_region ?_
  refine wv rfl (r_assign rfl) ?_
  refine wv rfl (r_assign rfl) ?_
  refine wl_nil ?_
  refine sq_n ?_
  refine wc_seq ?_
  refine wc_seq ?_
  refine wc_region ?_
  refine wv rfl (r_move rfl) ?_
  obtain ⟨r114, h115, hx⟩ := bind_some' hx
  refine w_call rfl rfl (hM.callV fun X S oL hS hR hO => ct_impl_TextOk _ X S t s_t hS (hR _ (.tail _ (.head _))) oL h115) ?_
  rintro _ w116 ⟨rfl, hR117⟩
  have hM := hM.call hR117
  refine wv rfl (r_not rfl) ?_
  refine wv rfl (r_move rfl) ?_
  obtain ⟨c120, hx, hx133⟩ := bind_some' hx
  refine wl_mid 6 (fun _ : Unit => [(17, (.bool c120)), (0, s_t.v), (1, (.int .i64 row)), (2, s_l.v)]) (fun _ w' => St ⟨w, X, S⟩ [] [rV s_l.v (cSl 1 fI l), rV s_t.v (cSl 1 fI t)] w') ?_ ?_
  · rcases Bool.eq_false_or_eq_true (!r114) with hg121 | hg121
    · replace hx := xif_t hg121 hx
      refine gs rfl (isB_no hg121) rfl ?_
      refine gs rfl (isB_no hg121) rfl ?_
      refine gs rfl (isB_no hg121) rfl ?_
      refine gs rfl (isB_no hg121) rfl ?_
      refine gs rfl (isB_no hg121) rfl ?_
      refine wv rfl (p_t rfl hg121 rfl) ?_
      obtain rfl := Option.some.inj hx
      exact mid_nil () ⟨rfl, rfl, rfl, rfl, trivial⟩ hM
    · replace hx := xif_f hg121 hx
      refine gv rfl hg121 rfl (r_move rfl) ?_
      refine gv rfl hg121 rfl (r_move rfl) ?_
      obtain ⟨r136, h137, hx⟩ := bind_some' hx
      refine gc rfl hg121 rfl rfl (hM.callV fun X S oL hS hR hO => ct_impl_RowCount _ X S t s_t hS (hR _ (.tail _ (.head _))) oL h137) ?_
      rintro _ w138 ⟨rfl, hR139⟩
      have hM := hM.call hR139
      obtain ⟨r140, h141, hx⟩ := bind_some' hx
      refine gc rfl hg121 rfl rfl (hM.callV fun X S oL hS hR hO => ct_impl_within _ X S row (0 : Int) r136 hS  oL h141) ?_
      rintro _ w142 ⟨rfl, hR143⟩
      have hM := hM.call hR143
      refine gv rfl hg121 rfl (r_not rfl) ?_
      refine wv rfl (p_f rfl hg121 rfl) ?_
      obtain rfl := Option.some.inj hx
      exact mid_nil () ⟨rfl, rfl, rfl, rfl, trivial⟩ hM
  rintro _ w145 hM
  replace hx := hx133
  refine wl_nil ?_
  refine sq_n ?_
  refine wc_cond rfl (fun hc146 => ?_) (fun hc146 => ?_)
  · replace hx := xif_t hc146 hx
    refine wc_seq ?_
    refine wc_region ?_
    refine wv rfl (r_assign rfl) ?_
    refine wv rfl (r_assign rfl) ?_
    refine wl_nil ?_
    refine sq_n ?_
    refine wc_ret ?_
    refine sq_ret ?_
    obtain rfl := Option.some.inj hx
    have hM := hM.nil0 (T := DPart) 3 fDPart
    refine fin_ret [nS.v, (.bool false)] ⟨rfl, rfl, trivial⟩ ?_
    replace hM := hM.t1
    have hM := hM.fewer rsN
    exact ⟨nS, rfl, hM.gives⟩
  · replace hx := xif_f hc146 hx
    refine wc_skip ?_
    refine sq_n ?_
    refine wc_seq ?_
    refine wc_seq ?_
    refine wc_region ?_
    refine wv rfl (r_move rfl) ?_
    refine wv rfl (r_move rfl) ?_
    obtain ⟨r152, h153, hx⟩ := bind_some' hx
    refine w_call rfl rfl (hM.callV fun X S oL hS hR hO => ct_impl_RowCount _ X S t s_t hS (hR _ (.tail _ (.head _))) oL h153) ?_
    rintro _ w154 ⟨rfl, hR155⟩
    have hM := hM.call hR155
    refine wv rfl (r_eql rfl rfl) ?_
    refine wl_nil ?_
    refine sq_n ?_
    refine wc_cond rfl (fun hc157 => ?_) (fun hc157 => ?_)
    · replace hx := xif_t hc157 hx
      refine wc_seq ?_
      refine wc_region ?_
      refine wv rfl (r_move rfl) ?_
      refine wv rfl (r_lenC Try.underlying22 rfl (hM.seeR (.tail _ (.head _)))) ?_
      refine wv rfl (r_move rfl) ?_
      refine wv rfl (r_lenC Try.underlying22 rfl (hM.seeR (.tail _ (.head _)))) ?_
      refine w_ex rfl (x_lit (f := fI) (own := []) [10] [(.int .i64 10)] 1 Try.underlying22 sz3 (fun _ => rfl) rfl rfl rfl rfl rfl (by kernel_rfl) (fun _ => zP (pV _ rfl) zN) hM ?_); intro s163 w162 hR164 hM
      refine wv rfl (r_move rfl) ?_
      obtain ⟨hg169, hx⟩ := xg_some hx
      refine w_ex rfl (x_append Try.underlying22 sz3 rfl rfl (hM.seeR (.head _)) flI hM hg169 rfl ?_); intro s168 w167 hM
      obtain ⟨r171, h172, hx⟩ := bind_some' hx
      refine w_call rfl rfl (hM.callO (l := []) fun X S oL hS hR hO => ct_impl_PutAt _ X S (t.length : Int) (t.length : Int) ([10] ++ l) s168 hS (seeA hO (.head _)) oL h172) ?_
      rintro _ w173 ⟨s174, rfl, hM⟩
      replace hM : St ⟨w, X, S⟩ [oC (cSl 3 fDPart r171.1) s174.v, oC (cSl 1 fI ([10] ++ l)) s168.v] [rV s_l.v (cSl 1 fI l), rV s_t.v (cSl 1 fI t)] _ := hM
      refine wv rfl (r_extract rfl rfl) ?_
      refine wv rfl (r_extract rfl rfl) ?_
      refine wv rfl (r_assign rfl) ?_
      refine wv rfl (r_assign rfl) ?_
      refine wl_nil ?_
      refine sq_n ?_
      refine wc_ret ?_
      refine sq_ret ?_
      obtain rfl := Option.some.inj hx
      refine fin_ret [s174.v, (.bool r171.2)] ⟨rfl, rfl, trivial⟩ ?_
      replace hM := hM.t1
      have hM := hM.fewer rsN
      exact ⟨s174, rfl, hM.gives⟩
    · replace hx := xif_f hc157 hx
      refine wc_skip ?_
      refine sq_n ?_
      refine wc_seq ?_
      obtain ⟨r185, h186, hx⟩ := bind_some' hx
      obtain ⟨hg194, hx⟩ := xg_some hx
      obtain ⟨r196, h197, hx⟩ := bind_some' hx
      obtain ⟨hg211, hx⟩ := xg_some hx
      obtain ⟨r215, h216, hx⟩ := bind_some' hx
      refine wc_mid (fun (s218 : Sv) => [(6, s218.v), (7, (.bool r215.2))]) (fun (s218 : Sv) w' => St ⟨w, X, S⟩ [oC (cSl 3 fDPart r215.1) s218.v] [] w') ?_ ?_
      · refine wc_drawM Try_mixed ?_
        refine wm_run [(0, 0), (2, 0), (4, 0), (7, 0)] 12 rfl (by kernel_rfl) (by kernel_rfl) rfl ?_
        refine ov rfl (fun w' h' => r_move rfl) ?_
        refine ov rfl (fun w' h' => r_move rfl) ?_
        refine ov rfl (fun w' h' => r_move rfl) ?_
        refine ov rfl (fun w' h' => r_move rfl) ?_
        refine o_nil fun w230 hw231 => ?_
        have hM := hM.call hw231
        refine wm_free 1 11 rfl rfl (by kernel_rfl) (by kernel_rfl) rfl (fun _ => r_lenC Try.underlying22 rfl (hM.seeR (.tail _ (.head _)))) ?_
        refine wm_fork [(3, 1), (9, 1)] 10 rfl (by kernel_rfl) rfl (by kernel_rfl) ⟨?_, ?_, trivial⟩
        ·
          refine o_call rfl rfl (fun w' h' => (hM.call h').callO (l := []) fun X S oL hS hR hO => ct_impl_Rows _ X S t s_t hS (hR _ (.tail _ (.head _))) oL h186) ?_
          rintro w235 h236 _ w233 ⟨s234, rfl, hM⟩
          replace hM : St ⟨w, X, S⟩ [oC (cSl 1 fI r185) s234.v] [rV s_l.v (cSl 1 fI l), rV s_t.v (cSl 1 fI t)] _ := hM
          refine o_nil fun w238 hw239 => ?_
          have hM := hM.call hw239
          have hi241 : row.toNat < r185.length := by omega
          refine wm_free 5 9 rfl rfl (by kernel_rfl) (by kernel_rfl) rfl (fun _ => r_ixC Try.underlying22 sz3 rfl rfl (hM.seeO (.head _)) hg194) ?_
          refine wm_fork [(6, 0), (8, 1), (9, 1)] 8 rfl (by kernel_rfl) rfl (by kernel_rfl) ⟨?_, ?_, ?_, trivial⟩
          ·
            refine o_ex1 rfl fun w243 h244 => ?_
            have hM := hM.call h244
            refine exq (r_ld Try.underlying3 rfl rfl (Cs.get (i := row.toNat) (j := 0) (hM.seeO (.head _)) (fun _ => rfl) hi241 rfl)) ?_
            refine ⟨Rel.refl _, ?_⟩
            refine o_nil fun w245 hw246 => ?_
            have hM := hM.call hw246
            refine wm_fork [(8, 1), (9, 1)] 7 rfl (by kernel_rfl) rfl (by kernel_rfl) ⟨?_, ?_, trivial⟩
            ·
              refine o_call rfl rfl (fun w' h' => (hM.call h').callO (l := []) fun X S oL hS hR hO => ct_impl_copyInts _ X S l s_l hS (hR _ (.head _)) oL h197) ?_
              rintro w249 h250 _ w247 ⟨s248, rfl, hM⟩
              replace hM : St ⟨w, X, S⟩ [oC (cSl 1 fI r196) s248.v, oC (cSl 1 fI r185) s234.v] [rV s_l.v (cSl 1 fI l), rV s_t.v (cSl 1 fI t)] _ := hM
              refine o_nil fun w252 hw253 => ?_
              have hM := hM.call hw253
              refine wm_run [(9, 2), (10, 2), (11, 2), (12, 0), (13, 0), (14, 0), (15, 0)] 0 rfl (by kernel_rfl) (by kernel_rfl) rfl ?_
              refine o_ex rfl fun w257 h258 => ?_
              have hM := hM.call h258
              refine x_lit (f := fI) (own := []) [10] [(.int .i64 10)] 1 Try.underlying22 sz3 (fun _ => rfl) rfl rfl rfl rfl rfl (by kernel_rfl) (fun _ => zP (pV _ rfl) zN) hM ?_; intro s255 w254 hR256 hM
              replace hM := hM.p1
              refine o_ex rfl fun w263 h264 => ?_
              have hM := hM.call h264
              refine x_append Try.underlying22 sz3 rfl rfl (hM.seeO (.tail _ (.head _))) flI hM hg211 rfl ?_; intro s261 w260 hM
              refine o_call rfl rfl (fun w' h' => (hM.call h').callO (l := []) fun X S oL hS hR hO => ct_impl_PutAt _ X S (t.length : Int) (el r185 row.toNat) (r196 ++ [10]) s261 hS (seeA hO (.head _)) oL h216) ?_
              rintro w267 h268 _ w265 ⟨s266, rfl, hM⟩
              replace hM : St ⟨w, X, S⟩ [oC (cSl 3 fDPart r215.1) s266.v, oC (cSl 1 fI (r196 ++ [10])) s261.v, oC (cSl 1 fI [10]) s255.v, oC (cSl 1 fI r185) s234.v] [rV s_l.v (cSl 1 fI l), rV s_t.v (cSl 1 fI t)] _ := hM
              refine ov rfl (fun w' h' => r_extract rfl rfl) ?_
              refine ov rfl (fun w' h' => r_extract rfl rfl) ?_
              refine ov rfl (fun w' h' => r_assign rfl) ?_
              refine ov rfl (fun w' h' => r_assign rfl) ?_
              refine o_nil fun w274 hw275 => ?_
              have hM := hM.call hw275
              refine wm_end (by kernel_rfl) fun w276 hw277 => ?_
              have hM := hM.call hw277
              replace hM := hM.t1
              have hM := hM.fewer rsN
              replace hM : St ⟨w, X, S⟩ [oC (cSl 3 fDPart r215.1) s266.v] [] _ := hM
              exact mid_c s266 ⟨rfl, rfl, trivial⟩ hM
            ·
              refine o_ex rfl fun w281 h282 => ?_
              have hM := hM.call h282
              refine x_lit (f := fI) (own := []) [10] [(.int .i64 10)] 1 Try.underlying22 sz3 (fun _ => rfl) rfl rfl rfl rfl rfl (by kernel_rfl) (fun _ => zP (pV _ rfl) zN) hM ?_; intro s279 w278 hR280 hM
              refine o_nil fun w284 hw285 => ?_
              have hM := hM.call hw285
              refine wm_run [(8, 2), (10, 2), (11, 2), (12, 0), (13, 0), (14, 0), (15, 0)] 0 rfl (by kernel_rfl) (by kernel_rfl) rfl ?_
              refine o_call rfl rfl (fun w' h' => (hM.call h').callO (l := []) fun X S oL hS hR hO => ct_impl_copyInts _ X S l s_l hS (hR _ (.head _)) oL h197) ?_
              rintro w288 h289 _ w286 ⟨s287, rfl, hM⟩
              replace hM : St ⟨w, X, S⟩ [oC (cSl 1 fI r196) s287.v, oC (cSl 1 fI [10]) s279.v, oC (cSl 1 fI r185) s234.v] [rV s_l.v (cSl 1 fI l), rV s_t.v (cSl 1 fI t)] _ := hM
              refine o_ex rfl fun w294 h295 => ?_
              have hM := hM.call h295
              refine x_append Try.underlying22 sz3 rfl rfl (hM.seeO (.tail _ (.head _))) flI hM hg211 rfl ?_; intro s292 w291 hM
              refine o_call rfl rfl (fun w' h' => (hM.call h').callO (l := []) fun X S oL hS hR hO => ct_impl_PutAt _ X S (t.length : Int) (el r185 row.toNat) (r196 ++ [10]) s292 hS (seeA hO (.head _)) oL h216) ?_
              rintro w298 h299 _ w296 ⟨s297, rfl, hM⟩
              replace hM : St ⟨w, X, S⟩ [oC (cSl 3 fDPart r215.1) s297.v, oC (cSl 1 fI (r196 ++ [10])) s292.v, oC (cSl 1 fI [10]) s279.v, oC (cSl 1 fI r185) s234.v] [rV s_l.v (cSl 1 fI l), rV s_t.v (cSl 1 fI t)] _ := hM
              refine ov rfl (fun w' h' => r_extract rfl rfl) ?_
              refine ov rfl (fun w' h' => r_extract rfl rfl) ?_
              refine ov rfl (fun w' h' => r_assign rfl) ?_
              refine ov rfl (fun w' h' => r_assign rfl) ?_
              refine o_nil fun w305 hw306 => ?_
              have hM := hM.call hw306
              refine wm_end (by kernel_rfl) fun w307 hw308 => ?_
              have hM := hM.call hw308
              replace hM := hM.t1
              have hM := hM.fewer rsN
              replace hM : St ⟨w, X, S⟩ [oC (cSl 3 fDPart r215.1) s297.v] [] _ := hM
              exact mid_c s297 ⟨rfl, rfl, trivial⟩ hM
          ·
            refine o_call rfl rfl (fun w' h' => (hM.call h').callO (l := []) fun X S oL hS hR hO => ct_impl_copyInts _ X S l s_l hS (hR _ (.head _)) oL h197) ?_
            rintro w311 h312 _ w309 ⟨s310, rfl, hM⟩
            replace hM : St ⟨w, X, S⟩ [oC (cSl 1 fI r196) s310.v, oC (cSl 1 fI r185) s234.v] [rV s_l.v (cSl 1 fI l), rV s_t.v (cSl 1 fI t)] _ := hM
            refine o_nil fun w314 hw315 => ?_
            have hM := hM.call hw315
            refine wm_fork [(6, 0), (9, 1)] 7 rfl (by kernel_rfl) rfl (by kernel_rfl) ⟨?_, ?_, trivial⟩
            ·
              refine o_ex1 rfl fun w317 h318 => ?_
              have hM := hM.call h318
              refine exq (r_ld Try.underlying3 rfl rfl (Cs.get (i := row.toNat) (j := 0) (hM.seeO (.tail _ (.head _))) (fun _ => rfl) hi241 rfl)) ?_
              refine ⟨Rel.refl _, ?_⟩
              refine o_nil fun w319 hw320 => ?_
              have hM := hM.call hw320
              refine wm_run [(9, 2), (10, 2), (11, 2), (12, 0), (13, 0), (14, 0), (15, 0)] 0 rfl (by kernel_rfl) (by kernel_rfl) rfl ?_
              refine o_ex rfl fun w324 h325 => ?_
              have hM := hM.call h325
              refine x_lit (f := fI) (own := []) [10] [(.int .i64 10)] 1 Try.underlying22 sz3 (fun _ => rfl) rfl rfl rfl rfl rfl (by kernel_rfl) (fun _ => zP (pV _ rfl) zN) hM ?_; intro s322 w321 hR323 hM
              replace hM := hM.p1
              refine o_ex rfl fun w330 h331 => ?_
              have hM := hM.call h331
              refine x_append Try.underlying22 sz3 rfl rfl (hM.seeO (.tail _ (.head _))) flI hM hg211 rfl ?_; intro s328 w327 hM
              refine o_call rfl rfl (fun w' h' => (hM.call h').callO (l := []) fun X S oL hS hR hO => ct_impl_PutAt _ X S (t.length : Int) (el r185 row.toNat) (r196 ++ [10]) s328 hS (seeA hO (.head _)) oL h216) ?_
              rintro w334 h335 _ w332 ⟨s333, rfl, hM⟩
              replace hM : St ⟨w, X, S⟩ [oC (cSl 3 fDPart r215.1) s333.v, oC (cSl 1 fI (r196 ++ [10])) s328.v, oC (cSl 1 fI [10]) s322.v, oC (cSl 1 fI r185) s234.v] [rV s_l.v (cSl 1 fI l), rV s_t.v (cSl 1 fI t)] _ := hM
              refine ov rfl (fun w' h' => r_extract rfl rfl) ?_
              refine ov rfl (fun w' h' => r_extract rfl rfl) ?_
              refine ov rfl (fun w' h' => r_assign rfl) ?_
              refine ov rfl (fun w' h' => r_assign rfl) ?_
              refine o_nil fun w341 hw342 => ?_
              have hM := hM.call hw342
              refine wm_end (by kernel_rfl) fun w343 hw344 => ?_
              have hM := hM.call hw344
              replace hM := hM.t1
              have hM := hM.fewer rsN
              replace hM : St ⟨w, X, S⟩ [oC (cSl 3 fDPart r215.1) s333.v] [] _ := hM
              exact mid_c s333 ⟨rfl, rfl, trivial⟩ hM
            ·
              refine o_ex rfl fun w348 h349 => ?_
              have hM := hM.call h349
              refine x_lit (f := fI) (own := []) [10] [(.int .i64 10)] 1 Try.underlying22 sz3 (fun _ => rfl) rfl rfl rfl rfl rfl (by kernel_rfl) (fun _ => zP (pV _ rfl) zN) hM ?_; intro s346 w345 hR347 hM
              refine o_nil fun w351 hw352 => ?_
              have hM := hM.call hw352
              refine wm_fork [(6, 0), (10, 1)] 6 rfl (by kernel_rfl) rfl (by kernel_rfl) ⟨?_, ?_, trivial⟩
              ·
                refine o_ex1 rfl fun w354 h355 => ?_
                have hM := hM.call h355
                refine exq (r_ld Try.underlying3 rfl rfl (Cs.get (i := row.toNat) (j := 0) (hM.seeO (.tail _ (.tail _ (.head _)))) (fun _ => rfl) hi241 rfl)) ?_
                refine ⟨Rel.refl _, ?_⟩
                refine o_nil fun w356 hw357 => ?_
                have hM := hM.call hw357
                refine wm_run [(10, 2), (11, 2), (12, 0), (13, 0), (14, 0), (15, 0)] 0 rfl (by kernel_rfl) (by kernel_rfl) rfl ?_
                replace hM := hM.p1
                refine o_ex rfl fun w361 h362 => ?_
                have hM := hM.call h362
                refine x_append Try.underlying22 sz3 rfl rfl (hM.seeO (.tail _ (.head _))) flI hM hg211 rfl ?_; intro s359 w358 hM
                refine o_call rfl rfl (fun w' h' => (hM.call h').callO (l := []) fun X S oL hS hR hO => ct_impl_PutAt _ X S (t.length : Int) (el r185 row.toNat) (r196 ++ [10]) s359 hS (seeA hO (.head _)) oL h216) ?_
                rintro w365 h366 _ w363 ⟨s364, rfl, hM⟩
                replace hM : St ⟨w, X, S⟩ [oC (cSl 3 fDPart r215.1) s364.v, oC (cSl 1 fI (r196 ++ [10])) s359.v, oC (cSl 1 fI [10]) s346.v, oC (cSl 1 fI r185) s234.v] [rV s_l.v (cSl 1 fI l), rV s_t.v (cSl 1 fI t)] _ := hM
                refine ov rfl (fun w' h' => r_extract rfl rfl) ?_
                refine ov rfl (fun w' h' => r_extract rfl rfl) ?_
                refine ov rfl (fun w' h' => r_assign rfl) ?_
                refine ov rfl (fun w' h' => r_assign rfl) ?_
                refine o_nil fun w372 hw373 => ?_
                have hM := hM.call hw373
                refine wm_end (by kernel_rfl) fun w374 hw375 => ?_
                have hM := hM.call hw375
                replace hM := hM.t1
                have hM := hM.fewer rsN
                replace hM : St ⟨w, X, S⟩ [oC (cSl 3 fDPart r215.1) s364.v] [] _ := hM
                exact mid_c s364 ⟨rfl, rfl, trivial⟩ hM
              ·
                replace hM := hM.p1
                refine o_ex rfl fun w379 h380 => ?_
                have hM := hM.call h380
                refine x_append Try.underlying22 sz3 rfl rfl (hM.seeO (.tail _ (.head _))) flI hM hg211 rfl ?_; intro s377 w376 hM
                refine o_nil fun w381 hw382 => ?_
                have hM := hM.call hw382
                refine wm_run [(6, 1), (11, 2), (12, 0), (13, 0), (14, 0), (15, 0)] 0 rfl (by kernel_rfl) (by kernel_rfl) rfl ?_
                refine o_ex1 rfl fun w384 h385 => ?_
                have hM := hM.call h385
                refine exq (r_ld Try.underlying3 rfl rfl (Cs.get (i := row.toNat) (j := 0) (hM.seeO (.tail _ (.tail _ (.head _)))) (fun _ => rfl) hi241 rfl)) ?_
                refine ⟨Rel.refl _, ?_⟩
                refine o_call rfl rfl (fun w' h' => (hM.call h').callO (l := []) fun X S oL hS hR hO => ct_impl_PutAt _ X S (t.length : Int) (el r185 row.toNat) (r196 ++ [10]) s377 hS (seeA hO (.head _)) oL h216) ?_
                rintro w388 h389 _ w386 ⟨s387, rfl, hM⟩
                replace hM : St ⟨w, X, S⟩ [oC (cSl 3 fDPart r215.1) s387.v, oC (cSl 1 fI (r196 ++ [10])) s377.v, oC (cSl 1 fI [10]) s346.v, oC (cSl 1 fI r185) s234.v] [rV s_l.v (cSl 1 fI l), rV s_t.v (cSl 1 fI t)] _ := hM
                refine ov rfl (fun w' h' => r_extract rfl rfl) ?_
                refine ov rfl (fun w' h' => r_extract rfl rfl) ?_
                refine ov rfl (fun w' h' => r_assign rfl) ?_
                refine ov rfl (fun w' h' => r_assign rfl) ?_
                refine o_nil fun w395 hw396 => ?_
                have hM := hM.call hw396
                refine wm_end (by kernel_rfl) fun w397 hw398 => ?_
                have hM := hM.call hw398
                replace hM := hM.t1
                have hM := hM.fewer rsN
                replace hM : St ⟨w, X, S⟩ [oC (cSl 3 fDPart r215.1) s387.v] [] _ := hM
                exact mid_c s387 ⟨rfl, rfl, trivial⟩ hM
          ·
            refine o_ex rfl fun w402 h403 => ?_
            have hM := hM.call h403
            refine x_lit (f := fI) (own := []) [10] [(.int .i64 10)] 1 Try.underlying22 sz3 (fun _ => rfl) rfl rfl rfl rfl rfl (by kernel_rfl) (fun _ => zP (pV _ rfl) zN) hM ?_; intro s400 w399 hR401 hM
            refine o_nil fun w405 hw406 => ?_
            have hM := hM.call hw406
            refine wm_fork [(6, 0), (8, 1)] 7 rfl (by kernel_rfl) rfl (by kernel_rfl) ⟨?_, ?_, trivial⟩
            ·
              refine o_ex1 rfl fun w408 h409 => ?_
              have hM := hM.call h409
              refine exq (r_ld Try.underlying3 rfl rfl (Cs.get (i := row.toNat) (j := 0) (hM.seeO (.tail _ (.head _))) (fun _ => rfl) hi241 rfl)) ?_
              refine ⟨Rel.refl _, ?_⟩
              refine o_nil fun w410 hw411 => ?_
              have hM := hM.call hw411
              refine wm_run [(8, 2), (10, 2), (11, 2), (12, 0), (13, 0), (14, 0), (15, 0)] 0 rfl (by kernel_rfl) (by kernel_rfl) rfl ?_
              refine o_call rfl rfl (fun w' h' => (hM.call h').callO (l := []) fun X S oL hS hR hO => ct_impl_copyInts _ X S l s_l hS (hR _ (.head _)) oL h197) ?_
              rintro w414 h415 _ w412 ⟨s413, rfl, hM⟩
              replace hM : St ⟨w, X, S⟩ [oC (cSl 1 fI r196) s413.v, oC (cSl 1 fI [10]) s400.v, oC (cSl 1 fI r185) s234.v] [rV s_l.v (cSl 1 fI l), rV s_t.v (cSl 1 fI t)] _ := hM
              refine o_ex rfl fun w420 h421 => ?_
              have hM := hM.call h421
              refine x_append Try.underlying22 sz3 rfl rfl (hM.seeO (.tail _ (.head _))) flI hM hg211 rfl ?_; intro s418 w417 hM
              refine o_call rfl rfl (fun w' h' => (hM.call h').callO (l := []) fun X S oL hS hR hO => ct_impl_PutAt _ X S (t.length : Int) (el r185 row.toNat) (r196 ++ [10]) s418 hS (seeA hO (.head _)) oL h216) ?_
              rintro w424 h425 _ w422 ⟨s423, rfl, hM⟩
              replace hM : St ⟨w, X, S⟩ [oC (cSl 3 fDPart r215.1) s423.v, oC (cSl 1 fI (r196 ++ [10])) s418.v, oC (cSl 1 fI [10]) s400.v, oC (cSl 1 fI r185) s234.v] [rV s_l.v (cSl 1 fI l), rV s_t.v (cSl 1 fI t)] _ := hM
              refine ov rfl (fun w' h' => r_extract rfl rfl) ?_
              refine ov rfl (fun w' h' => r_extract rfl rfl) ?_
              refine ov rfl (fun w' h' => r_assign rfl) ?_
              refine ov rfl (fun w' h' => r_assign rfl) ?_
              refine o_nil fun w431 hw432 => ?_
              have hM := hM.call hw432
              refine wm_end (by kernel_rfl) fun w433 hw434 => ?_
              have hM := hM.call hw434
              replace hM := hM.t1
              have hM := hM.fewer rsN
              replace hM : St ⟨w, X, S⟩ [oC (cSl 3 fDPart r215.1) s423.v] [] _ := hM
              exact mid_c s423 ⟨rfl, rfl, trivial⟩ hM
            ·
              refine o_call rfl rfl (fun w' h' => (hM.call h').callO (l := []) fun X S oL hS hR hO => ct_impl_copyInts _ X S l s_l hS (hR _ (.head _)) oL h197) ?_
              rintro w437 h438 _ w435 ⟨s436, rfl, hM⟩
              replace hM : St ⟨w, X, S⟩ [oC (cSl 1 fI r196) s436.v, oC (cSl 1 fI [10]) s400.v, oC (cSl 1 fI r185) s234.v] [rV s_l.v (cSl 1 fI l), rV s_t.v (cSl 1 fI t)] _ := hM
              refine o_nil fun w440 hw441 => ?_
              have hM := hM.call hw441
              refine wm_fork [(6, 0), (10, 1)] 6 rfl (by kernel_rfl) rfl (by kernel_rfl) ⟨?_, ?_, trivial⟩
              ·
                refine o_ex1 rfl fun w443 h444 => ?_
                have hM := hM.call h444
                refine exq (r_ld Try.underlying3 rfl rfl (Cs.get (i := row.toNat) (j := 0) (hM.seeO (.tail _ (.tail _ (.head _)))) (fun _ => rfl) hi241 rfl)) ?_
                refine ⟨Rel.refl _, ?_⟩
                refine o_nil fun w445 hw446 => ?_
                have hM := hM.call hw446
                refine wm_run [(10, 2), (11, 2), (12, 0), (13, 0), (14, 0), (15, 0)] 0 rfl (by kernel_rfl) (by kernel_rfl) rfl ?_
                refine o_ex rfl fun w450 h451 => ?_
                have hM := hM.call h451
                refine x_append Try.underlying22 sz3 rfl rfl (hM.seeO (.tail _ (.head _))) flI hM hg211 rfl ?_; intro s448 w447 hM
                refine o_call rfl rfl (fun w' h' => (hM.call h').callO (l := []) fun X S oL hS hR hO => ct_impl_PutAt _ X S (t.length : Int) (el r185 row.toNat) (r196 ++ [10]) s448 hS (seeA hO (.head _)) oL h216) ?_
                rintro w454 h455 _ w452 ⟨s453, rfl, hM⟩
                replace hM : St ⟨w, X, S⟩ [oC (cSl 3 fDPart r215.1) s453.v, oC (cSl 1 fI (r196 ++ [10])) s448.v, oC (cSl 1 fI [10]) s400.v, oC (cSl 1 fI r185) s234.v] [rV s_l.v (cSl 1 fI l), rV s_t.v (cSl 1 fI t)] _ := hM
                refine ov rfl (fun w' h' => r_extract rfl rfl) ?_
                refine ov rfl (fun w' h' => r_extract rfl rfl) ?_
                refine ov rfl (fun w' h' => r_assign rfl) ?_
                refine ov rfl (fun w' h' => r_assign rfl) ?_
                refine o_nil fun w461 hw462 => ?_
                have hM := hM.call hw462
                refine wm_end (by kernel_rfl) fun w463 hw464 => ?_
                have hM := hM.call hw464
                replace hM := hM.t1
                have hM := hM.fewer rsN
                replace hM : St ⟨w, X, S⟩ [oC (cSl 3 fDPart r215.1) s453.v] [] _ := hM
                exact mid_c s453 ⟨rfl, rfl, trivial⟩ hM
              ·
                refine o_ex rfl fun w468 h469 => ?_
                have hM := hM.call h469
                refine x_append Try.underlying22 sz3 rfl rfl (hM.seeO (.tail _ (.head _))) flI hM hg211 rfl ?_; intro s466 w465 hM
                refine o_nil fun w470 hw471 => ?_
                have hM := hM.call hw471
                refine wm_run [(6, 1), (11, 2), (12, 0), (13, 0), (14, 0), (15, 0)] 0 rfl (by kernel_rfl) (by kernel_rfl) rfl ?_
                refine o_ex1 rfl fun w473 h474 => ?_
                have hM := hM.call h474
                refine exq (r_ld Try.underlying3 rfl rfl (Cs.get (i := row.toNat) (j := 0) (hM.seeO (.tail _ (.tail _ (.head _)))) (fun _ => rfl) hi241 rfl)) ?_
                refine ⟨Rel.refl _, ?_⟩
                refine o_call rfl rfl (fun w' h' => (hM.call h').callO (l := []) fun X S oL hS hR hO => ct_impl_PutAt _ X S (t.length : Int) (el r185 row.toNat) (r196 ++ [10]) s466 hS (seeA hO (.head _)) oL h216) ?_
                rintro w477 h478 _ w475 ⟨s476, rfl, hM⟩
                replace hM : St ⟨w, X, S⟩ [oC (cSl 3 fDPart r215.1) s476.v, oC (cSl 1 fI (r196 ++ [10])) s466.v, oC (cSl 1 fI [10]) s400.v, oC (cSl 1 fI r185) s234.v] [rV s_l.v (cSl 1 fI l), rV s_t.v (cSl 1 fI t)] _ := hM
                refine ov rfl (fun w' h' => r_extract rfl rfl) ?_
                refine ov rfl (fun w' h' => r_extract rfl rfl) ?_
                refine ov rfl (fun w' h' => r_assign rfl) ?_
                refine ov rfl (fun w' h' => r_assign rfl) ?_
                refine o_nil fun w484 hw485 => ?_
                have hM := hM.call hw485
                refine wm_end (by kernel_rfl) fun w486 hw487 => ?_
                have hM := hM.call hw487
                replace hM := hM.t1
                have hM := hM.fewer rsN
                replace hM : St ⟨w, X, S⟩ [oC (cSl 3 fDPart r215.1) s476.v] [] _ := hM
                exact mid_c s476 ⟨rfl, rfl, trivial⟩ hM
        ·
          refine o_ex rfl fun w491 h492 => ?_
          have hM := hM.call h492
          refine x_lit (f := fI) (own := []) [10] [(.int .i64 10)] 1 Try.underlying22 sz3 (fun _ => rfl) rfl rfl rfl rfl rfl (by kernel_rfl) (fun _ => zP (pV _ rfl) zN) hM ?_; intro s489 w488 hR490 hM
          refine o_nil fun w494 hw495 => ?_
          have hM := hM.call hw495
          refine wm_run [(3, 2)] 9 rfl (by kernel_rfl) (by kernel_rfl) rfl ?_
          refine o_call rfl rfl (fun w' h' => (hM.call h').callO (l := []) fun X S oL hS hR hO => ct_impl_Rows _ X S t s_t hS (hR _ (.tail _ (.head _))) oL h186) ?_
          rintro w498 h499 _ w496 ⟨s497, rfl, hM⟩
          replace hM : St ⟨w, X, S⟩ [oC (cSl 1 fI r185) s497.v, oC (cSl 1 fI [10]) s489.v] [rV s_l.v (cSl 1 fI l), rV s_t.v (cSl 1 fI t)] _ := hM
          refine o_nil fun w501 hw502 => ?_
          have hM := hM.call hw502
          have hi504 : row.toNat < r185.length := by omega
          refine wm_free 5 8 rfl rfl (by kernel_rfl) (by kernel_rfl) rfl (fun _ => r_ixC Try.underlying22 sz3 rfl rfl (hM.seeO (.head _)) hg194) ?_
          refine wm_fork [(6, 0), (8, 1)] 7 rfl (by kernel_rfl) rfl (by kernel_rfl) ⟨?_, ?_, trivial⟩
          ·
            refine o_ex1 rfl fun w506 h507 => ?_
            have hM := hM.call h507
            refine exq (r_ld Try.underlying3 rfl rfl (Cs.get (i := row.toNat) (j := 0) (hM.seeO (.head _)) (fun _ => rfl) hi504 rfl)) ?_
            refine ⟨Rel.refl _, ?_⟩
            refine o_nil fun w508 hw509 => ?_
            have hM := hM.call hw509
            refine wm_run [(8, 2), (10, 2), (11, 2), (12, 0), (13, 0), (14, 0), (15, 0)] 0 rfl (by kernel_rfl) (by kernel_rfl) rfl ?_
            refine o_call rfl rfl (fun w' h' => (hM.call h').callO (l := []) fun X S oL hS hR hO => ct_impl_copyInts _ X S l s_l hS (hR _ (.head _)) oL h197) ?_
            rintro w512 h513 _ w510 ⟨s511, rfl, hM⟩
            replace hM : St ⟨w, X, S⟩ [oC (cSl 1 fI r196) s511.v, oC (cSl 1 fI r185) s497.v, oC (cSl 1 fI [10]) s489.v] [rV s_l.v (cSl 1 fI l), rV s_t.v (cSl 1 fI t)] _ := hM
            refine o_ex rfl fun w518 h519 => ?_
            have hM := hM.call h519
            refine x_append Try.underlying22 sz3 rfl rfl (hM.seeO (.tail _ (.tail _ (.head _)))) flI hM hg211 rfl ?_; intro s516 w515 hM
            refine o_call rfl rfl (fun w' h' => (hM.call h').callO (l := []) fun X S oL hS hR hO => ct_impl_PutAt _ X S (t.length : Int) (el r185 row.toNat) (r196 ++ [10]) s516 hS (seeA hO (.head _)) oL h216) ?_
            rintro w522 h523 _ w520 ⟨s521, rfl, hM⟩
            replace hM : St ⟨w, X, S⟩ [oC (cSl 3 fDPart r215.1) s521.v, oC (cSl 1 fI (r196 ++ [10])) s516.v, oC (cSl 1 fI r185) s497.v, oC (cSl 1 fI [10]) s489.v] [rV s_l.v (cSl 1 fI l), rV s_t.v (cSl 1 fI t)] _ := hM
            refine ov rfl (fun w' h' => r_extract rfl rfl) ?_
            refine ov rfl (fun w' h' => r_extract rfl rfl) ?_
            refine ov rfl (fun w' h' => r_assign rfl) ?_
            refine ov rfl (fun w' h' => r_assign rfl) ?_
            refine o_nil fun w529 hw530 => ?_
            have hM := hM.call hw530
            refine wm_end (by kernel_rfl) fun w531 hw532 => ?_
            have hM := hM.call hw532
            replace hM := hM.t1
            have hM := hM.fewer rsN
            replace hM : St ⟨w, X, S⟩ [oC (cSl 3 fDPart r215.1) s521.v] [] _ := hM
            exact mid_c s521 ⟨rfl, rfl, trivial⟩ hM
          ·
            refine o_call rfl rfl (fun w' h' => (hM.call h').callO (l := []) fun X S oL hS hR hO => ct_impl_copyInts _ X S l s_l hS (hR _ (.head _)) oL h197) ?_
            rintro w535 h536 _ w533 ⟨s534, rfl, hM⟩
            replace hM : St ⟨w, X, S⟩ [oC (cSl 1 fI r196) s534.v, oC (cSl 1 fI r185) s497.v, oC (cSl 1 fI [10]) s489.v] [rV s_l.v (cSl 1 fI l), rV s_t.v (cSl 1 fI t)] _ := hM
            refine o_nil fun w538 hw539 => ?_
            have hM := hM.call hw539
            refine wm_fork [(6, 0), (10, 1)] 6 rfl (by kernel_rfl) rfl (by kernel_rfl) ⟨?_, ?_, trivial⟩
            ·
              refine o_ex1 rfl fun w541 h542 => ?_
              have hM := hM.call h542
              refine exq (r_ld Try.underlying3 rfl rfl (Cs.get (i := row.toNat) (j := 0) (hM.seeO (.tail _ (.head _))) (fun _ => rfl) hi504 rfl)) ?_
              refine ⟨Rel.refl _, ?_⟩
              refine o_nil fun w543 hw544 => ?_
              have hM := hM.call hw544
              refine wm_run [(10, 2), (11, 2), (12, 0), (13, 0), (14, 0), (15, 0)] 0 rfl (by kernel_rfl) (by kernel_rfl) rfl ?_
              refine o_ex rfl fun w548 h549 => ?_
              have hM := hM.call h549
              refine x_append Try.underlying22 sz3 rfl rfl (hM.seeO (.tail _ (.tail _ (.head _)))) flI hM hg211 rfl ?_; intro s546 w545 hM
              refine o_call rfl rfl (fun w' h' => (hM.call h').callO (l := []) fun X S oL hS hR hO => ct_impl_PutAt _ X S (t.length : Int) (el r185 row.toNat) (r196 ++ [10]) s546 hS (seeA hO (.head _)) oL h216) ?_
              rintro w552 h553 _ w550 ⟨s551, rfl, hM⟩
              replace hM : St ⟨w, X, S⟩ [oC (cSl 3 fDPart r215.1) s551.v, oC (cSl 1 fI (r196 ++ [10])) s546.v, oC (cSl 1 fI r185) s497.v, oC (cSl 1 fI [10]) s489.v] [rV s_l.v (cSl 1 fI l), rV s_t.v (cSl 1 fI t)] _ := hM
              refine ov rfl (fun w' h' => r_extract rfl rfl) ?_
              refine ov rfl (fun w' h' => r_extract rfl rfl) ?_
              refine ov rfl (fun w' h' => r_assign rfl) ?_
              refine ov rfl (fun w' h' => r_assign rfl) ?_
              refine o_nil fun w559 hw560 => ?_
              have hM := hM.call hw560
              refine wm_end (by kernel_rfl) fun w561 hw562 => ?_
              have hM := hM.call hw562
              replace hM := hM.t1
              have hM := hM.fewer rsN
              replace hM : St ⟨w, X, S⟩ [oC (cSl 3 fDPart r215.1) s551.v] [] _ := hM
              exact mid_c s551 ⟨rfl, rfl, trivial⟩ hM
            ·
              refine o_ex rfl fun w566 h567 => ?_
              have hM := hM.call h567
              refine x_append Try.underlying22 sz3 rfl rfl (hM.seeO (.tail _ (.tail _ (.head _)))) flI hM hg211 rfl ?_; intro s564 w563 hM
              refine o_nil fun w568 hw569 => ?_
              have hM := hM.call hw569
              refine wm_run [(6, 1), (11, 2), (12, 0), (13, 0), (14, 0), (15, 0)] 0 rfl (by kernel_rfl) (by kernel_rfl) rfl ?_
              refine o_ex1 rfl fun w571 h572 => ?_
              have hM := hM.call h572
              refine exq (r_ld Try.underlying3 rfl rfl (Cs.get (i := row.toNat) (j := 0) (hM.seeO (.tail _ (.head _))) (fun _ => rfl) hi504 rfl)) ?_
              refine ⟨Rel.refl _, ?_⟩
              refine o_call rfl rfl (fun w' h' => (hM.call h').callO (l := []) fun X S oL hS hR hO => ct_impl_PutAt _ X S (t.length : Int) (el r185 row.toNat) (r196 ++ [10]) s564 hS (seeA hO (.head _)) oL h216) ?_
              rintro w575 h576 _ w573 ⟨s574, rfl, hM⟩
              replace hM : St ⟨w, X, S⟩ [oC (cSl 3 fDPart r215.1) s574.v, oC (cSl 1 fI (r196 ++ [10])) s564.v, oC (cSl 1 fI r185) s497.v, oC (cSl 1 fI [10]) s489.v] [rV s_l.v (cSl 1 fI l), rV s_t.v (cSl 1 fI t)] _ := hM
              refine ov rfl (fun w' h' => r_extract rfl rfl) ?_
              refine ov rfl (fun w' h' => r_extract rfl rfl) ?_
              refine ov rfl (fun w' h' => r_assign rfl) ?_
              refine ov rfl (fun w' h' => r_assign rfl) ?_
              refine o_nil fun w582 hw583 => ?_
              have hM := hM.call hw583
              refine wm_end (by kernel_rfl) fun w584 hw585 => ?_
              have hM := hM.call hw585
              replace hM := hM.t1
              have hM := hM.fewer rsN
              replace hM : St ⟨w, X, S⟩ [oC (cSl 3 fDPart r215.1) s574.v] [] _ := hM
              exact mid_c s574 ⟨rfl, rfl, trivial⟩ hM
      rintro s218 w586 hM
      refine sq_n ?_
      refine wc_ret ?_
      obtain rfl := Option.some.inj hx
      refine fin_ret [s218.v, (.bool r215.2)] ⟨rfl, rfl, trivial⟩ ?_
      replace hM := hM.t1
      have hM := hM.fewer rsN
      exact ⟨s218, rfl, hM.gives⟩

noncomputable def x_spec_Rows_b0 (_t : List Int) (k17 : Nat) (x63 : Int) (out18 : List Int) : Option (Lr (List Int) (List Int)) :=
  bif decide (x63 = 10) then (xg (out18.length < 1099511627776) <| some (Lr.go (out18 ++ [(k17 : Int) + 1]))) else (some (Lr.go out18))
noncomputable def x_spec_Rows_f0 (t : List Int) (k17 : Nat) (s64 : List Int) : Option (Lr (List Int) (List Int)) := x_spec_Rows_b0 t k17 (el t k17) s64
noncomputable def x_spec_Rows (t : List Int) : Option (List Int) :=
  Option.bind (x_spec_TextOk t) fun r3 => bif !r3 then (some []) else (Option.bind (eachN (x_spec_Rows_f0 t) (fun (s64 : List Int) => (s64 : List Int)) t.length 0 [0]) fun (y65 : List Int) => some y65)
theorem ct_spec_Rows (w : World) (X S : Bs) (t : List Int) (s_t : Sv) (hS : ∀ b, S b → b < w.heap.size ∧ ¬ X b) (a_t_0 : (cSl 1 fI t).rd S w s_t.v) (oL : Sep [] X w) {r : List Int} (hx : x_spec_Rows t = some r) :
    Ret Try.prog 24 [s_t.v] w (fun u w' => ∃ y : Sv, u = y.v ∧ Gives X S w [oC (cSl 1 fI r) y.v] [] w') := by
  unfold x_spec_Rows at hx
  refine enter Try.func24 rfl Try.ntmps24 (by kernel_rfl) rfl ?_
  have hM := St.enter oL hS
  have hM := hM.addE (r := rV s_t.v (cSl 1 fI t)) a_t_0
  refine wc_seq ?_
  refine wc_region ?_
  refine wv rfl (r_assign rfl) ?_
  refine wl_nil ?_
  refine sq_n ?_
  refine wc_seq ?_
  refine wc_seq ?_
  refine wc_region ?_
  refine wv rfl (r_move rfl) ?_
  obtain ⟨r72, h73, hx⟩ := bind_some' hx
  refine w_call rfl rfl (hM.callV fun X S oL hS hR hO => ct_spec_TextOk _ X S t s_t hS (hR _ (.head _)) oL h73) ?_
  rintro _ w74 ⟨rfl, hR75⟩
  have hM := hM.call hR75
  refine wv rfl (r_not rfl) ?_
  refine wl_nil ?_
  refine sq_n ?_
  refine wc_cond rfl (fun hc77 => ?_) (fun hc77 => ?_)
  · replace hx := xif_t hc77 hx
    refine wc_seq ?_
    refine wc_region ?_
    refine wv rfl (r_assign rfl) ?_
    refine wl_nil ?_
    refine sq_n ?_
    refine wc_ret ?_
    refine sq_ret ?_
    obtain rfl := Option.some.inj hx
    have hM := hM.nil0 (T := Int) 1 fI
    refine fin_ret [nS.v] ⟨rfl, trivial⟩ ?_
    replace hM := hM.t1
    have hM := hM.fewer rsN
    exact ⟨nS, rfl, hM.gives⟩
  · replace hx := xif_f hc77 hx
    refine wc_skip ?_
    refine sq_n ?_
    refine wc_seq ?_
    refine wc_region ?_
    refine w_ex rfl (x_lit (f := fI) (own := []) [0] [(.int .i64 0)] 1 Try.underlying22 sz3 (fun _ => rfl) rfl rfl rfl rfl rfl (by kernel_rfl) (fun _ => zP (pV _ rfl) zN) hM ?_); intro s81 w80 hR82 hM
    refine wv rfl (r_assign rfl) ?_
    refine wl_nil ?_
    refine sq_n ?_
    refine wc_seq ?_
    refine wc_seq ?_
    refine wc_region ?_
    refine wv rfl (r_move rfl) ?_
    refine wv rfl (r_lenC Try.underlying22 rfl (hM.seeR (.head _))) ?_
    refine wv rfl (r_move rfl) ?_
    refine wl_nil ?_
    refine sq_n ?_
    refine wc_block ?_
    obtain ⟨y88, hx, hx89⟩ := bind_some' hx
    have hl96 := Cs.le (hM.seeR (.head _))
    refine wc_loop (un fun (m93 : Nat) => un fun (k94 : Nat) => un fun (out90 : List Int) => fun (s92 : Sv) => [(3, s92.v), (10, s_t.v), (11, (.int .i64 (t.length : Int))), (12, (.int .i64 (k94 : Int)))]) (un fun (m93 : Nat) => un fun (k94 : Nat) => un fun (out90 : List Int) => fun (s92 : Sv) w' => St ⟨w, X, S⟩ [oC (cSl 1 fI out90) s92.v] [rV s_t.v (cSl 1 fI t)] w' ∧ eachN _ _ m93 k94 out90 = some y88 ∧ k94 + m93 = t.length) (fun p => p.1) (t.length, 0, [0], s81) ⟨rfl, rfl, rfl, rfl, trivial⟩ ⟨hM, hx, Nat.zero_add _⟩ ?_
    rintro ⟨m93, k94, out90, s92⟩ w97 ⟨hM, hx, hk95⟩
    refine wc_seq ?_
    refine wc_region ?_
    refine wv rfl (r_lss rfl rfl) ?_
    refine wl_nil ?_
    refine sq_n ?_
    refine wc_seq ?_
    refine wc_cond rfl (fun hc99 => ?_) (fun hc99 => ?_)
    · replace hc99 := of_decide_eq_true hc99
      obtain ⟨m100, z101, rfl, hk95, hx, hx102⟩ := eachN_step hx hk95 hc99
      unfold x_spec_Rows_f0 x_spec_Rows_b0 at hx
      try dsimp only at hx
      refine wc_skip ?_
      refine sq_n ?_
      refine wc_seq ?_
      refine wc_block ?_
      refine wc_seq ?_
      refine wc_region ?_
      refine wv rfl (r_move rfl) ?_
      have hi105 : k94 < t.length := by omega
      refine wv rfl (r_ixC Try.underlying22 sz3 rfl rfl (hM.seeR (.head _)) ⟨by omega, hc99⟩) ?_
      refine wv rfl (r_ld Try.underlying3 rfl rfl (Cs.get (i := k94) (j := 0) (hM.seeR (.head _)) (fun _ => rfl) hi105 rfl)) ?_
      refine wv rfl (r_assign rfl) ?_
      refine wv rfl (r_assign rfl) ?_
      refine wl_nil ?_
      refine sq_n ?_
      refine wc_seq ?_
      refine wc_region ?_
      refine wv rfl (r_move rfl) ?_
      refine wv rfl (r_eql rfl rfl) ?_
      refine wl_nil ?_
      refine sq_n ?_
      refine wc_cond rfl (fun hc111 => ?_) (fun hc111 => ?_)
      · replace hx := xif_t hc111 hx
        refine wc_region ?_
        refine wv rfl (r_move rfl) ?_
        refine wv rfl (r_move rfl) ?_
        refine wv rfl (r_add rfl rfl ⟨by omega, by omega⟩) ?_
        obtain ⟨hg118, hx⟩ := xg_some hx
        refine w_push (f := fI) ((k94 : Int) + 1) rfl rfl Try.underlying22 sz3 rfl rfl rfl rfl (fun _ => rfl) hM (fun _ => zP (pV _ rfl) zN) rfl hg118 rfl ?_; intro u116 s117 w115 hM
        refine wv rfl (r_assign rfl) ?_
        refine wl_nil ?_
        refine bk_n ?_
        refine sq_n ?_
        refine wc_region ?_
        refine wv rfl (r_add rfl rfl ⟨by omega, by omega⟩) ?_
        refine wv rfl (r_move rfl) ?_
        refine wl_nil ?_
        obtain rfl := Option.some.inj hx
        exact lp_end (m100, k94 + 1, out90 ++ [(k94 : Int) + 1], s117) (Nat.lt_succ_self _) ⟨rfl, rfl, rfl, rfl, trivial⟩ ⟨hM, hx102, hk95⟩
      · replace hx := xif_f hc111 hx
        refine wc_skip ?_
        refine bk_n ?_
        refine sq_n ?_
        refine wc_region ?_
        refine wv rfl (r_add rfl rfl ⟨by omega, by omega⟩) ?_
        refine wv rfl (r_move rfl) ?_
        refine wl_nil ?_
        obtain rfl := Option.some.inj hx
        exact lp_end (m100, k94 + 1, out90, s92) (Nat.lt_succ_self _) ⟨rfl, rfl, rfl, rfl, trivial⟩ ⟨hM, hx102, hk95⟩
    · replace hc99 := of_decide_eq_false hc99
      obtain rfl := eachN_end hx hk95 hc99
      refine wc_exit ?_
      refine sq_exit ?_
      refine lp1_exit ?_
      replace hx := hx89
      try dsimp only [Sum.elim_inl, Sum.elim_inr] at hx
      refine bk_here ?_
      refine sq_n ?_
      refine wc_seq ?_
      refine wc_region ?_
      refine wv rfl (r_move rfl) ?_
      refine wv rfl (r_assign rfl) ?_
      refine wl_nil ?_
      refine sq_n ?_
      refine wc_ret ?_
      obtain rfl := Option.some.inj hx
      refine fin_ret [s92.v] ⟨rfl, trivial⟩ ?_
      replace hM := hM.t1
      have hM := hM.fewer rsN
      exact ⟨s92, rfl, hM.gives⟩

noncomputable def x_spec_RowCount (t : List Int) : Option Int :=
  Option.bind (x_spec_Rows t) fun r3 => some (r3.length : Int)
theorem ct_spec_RowCount (w : World) (X S : Bs) (t : List Int) (s_t : Sv) (hS : ∀ b, S b → b < w.heap.size ∧ ¬ X b) (a_t_0 : (cSl 1 fI t).rd S w s_t.v) (oL : Sep [] X w) {r : Int} (hx : x_spec_RowCount t = some r) :
    Ret Try.prog 17 [s_t.v] w (fun u w' => ∃ _ : Unit, u = (.int .i64 r) ∧ Gives X S w [] [] w') := by
  unfold x_spec_RowCount at hx
  refine enter Try.func17 rfl Try.ntmps17 (by kernel_rfl) rfl ?_
  have hM := St.enter oL hS
  have hM := hM.addE (r := rV s_t.v (cSl 1 fI t)) a_t_0
  refine wc_seq ?_
  refine wc_region ?_
  refine wv rfl (r_assign rfl) ?_
  refine wl_nil ?_
  refine sq_n ?_
  refine wc_seq ?_
  refine wc_region ?_
  refine wv rfl (r_move rfl) ?_
  obtain ⟨r12, h13, hx⟩ := bind_some' hx
  refine w_call rfl rfl (hM.callO (l := []) fun X S oL hS hR hO => ct_spec_Rows _ X S t s_t hS (hR _ (.head _)) oL h13) ?_
  rintro _ w14 ⟨s15, rfl, hM⟩
  replace hM : St ⟨w, X, S⟩ [oC (cSl 1 fI r12) s15.v] [rV s_t.v (cSl 1 fI t)] _ := hM
  refine wv rfl (r_lenC Try.underlying22 rfl (hM.seeO (.head _))) ?_
  refine wv rfl (r_assign rfl) ?_
  refine wl_nil ?_
  refine sq_n ?_
  refine wc_ret ?_
  obtain rfl := Option.some.inj hx
  refine fin_ret [(.int .i64 (r12.length : Int))] ⟨rfl, trivial⟩ ?_
  replace hM := hM.t0
  have hM := hM.fewer rsN
  exact ⟨(), rfl, hM.gives⟩

noncomputable def x_spec_l26Ends (t : List Int) (row : Int) : Option (Int × Int × Bool) :=
  Option.bind (x_spec_Rows t) fun r5 => xg (inI ((r5.length : Int) - 1)) <| Option.bind (x_spec_l01In row 0 ((r5.length : Int) - 1)) fun r16 => bif !r16 then (some (0, 0, false)) else (xg (inI ((r5.length : Int) - 1)) <| bif decide (row = ((r5.length : Int) - 1)) then (xg (0 ≤ row ∧ row < (r5.length : Int)) <| some (el r5 row.toNat, (t.length : Int), true)) else (xg (0 ≤ row ∧ row < (r5.length : Int)) <| xg (inI (row + 1)) <| xg (0 ≤ (row + 1) ∧ (row + 1) < (r5.length : Int)) <| xg (inI ((el r5 ((row + 1).toNat)) - 1)) <| some (el r5 row.toNat, (el r5 ((row + 1).toNat)) - 1, true)))
theorem ct_spec_l26Ends (w : World) (X S : Bs) (t : List Int) (s_t : Sv) (row : Int) (hS : ∀ b, S b → b < w.heap.size ∧ ¬ X b) (a_t_0 : (cSl 1 fI t).rd S w s_t.v) (oL : Sep [] X w) {r : Int × Int × Bool} (hx : x_spec_l26Ends t row = some r) :
    Ret Try.prog 42 [s_t.v, (.int .i64 row)] w (fun u w' => ∃ _ : Unit, u = .tuple #[(.int .i64 r.1), (.int .i64 r.2.1), (.bool r.2.2)] ∧ Gives X S w [] [] w') := by
  unfold x_spec_l26Ends at hx
  refine enter Try.func42 rfl Try.ntmps42 (by kernel_rfl) rfl ?_
  have hM := St.enter oL hS
  have hM := hM.addE (r := rV s_t.v (cSl 1 fI t)) a_t_0
  refine wc_seq ?_
  refine wc_region ?_
  refine wv rfl (r_assign rfl) ?_
  refine wv rfl (r_assign rfl) ?_
  refine wv rfl (r_assign rfl) ?_
  refine wl_nil ?_
  refine sq_n ?_
  refine wc_seq ?_
  refine wc_region ?_
  refine wv rfl (r_move rfl) ?_
  obtain ⟨r66, h67, hx⟩ := bind_some' hx
  refine w_call rfl rfl (hM.callO (l := []) fun X S oL hS hR hO => ct_spec_Rows _ X S t s_t hS (hR _ (.head _)) oL h67) ?_
  rintro _ w68 ⟨s69, rfl, hM⟩
  replace hM : St ⟨w, X, S⟩ [oC (cSl 1 fI r66) s69.v] [rV s_t.v (cSl 1 fI t)] _ := hM
  refine wv rfl (r_assign rfl) ?_
  refine wl_nil ?_
  refine sq_n ?_
  refine wc_seq ?_
  refine wc_seq ?_
  refine wc_region ?_
  refine wv rfl (r_move rfl) ?_
  refine wv rfl (r_move rfl) ?_
  refine wv rfl (r_lenC Try.underlying22 rfl (hM.seeO (.head _))) ?_
  obtain ⟨hg76, hx⟩ := xg_some hx
  refine wv rfl (r_sub rfl rfl hg76) ?_
  obtain ⟨r77, h78, hx⟩ := bind_some' hx
  refine w_call rfl rfl (hM.callV fun X S oL hS hR hO => ct_spec_l01In _ X S row (0 : Int) ((r66.length : Int) - 1) hS  oL h78) ?_
  rintro _ w79 ⟨rfl, hR80⟩
  have hM := hM.call hR80
  refine wv rfl (r_not rfl) ?_
  refine wl_nil ?_
  refine sq_n ?_
  refine wc_cond rfl (fun hc82 => ?_) (fun hc82 => ?_)
  · replace hx := xif_t hc82 hx
    refine wc_seq ?_
    refine wc_region ?_
    refine wv rfl (r_assign rfl) ?_
    refine wv rfl (r_assign rfl) ?_
    refine wv rfl (r_assign rfl) ?_
    refine wl_nil ?_
    refine sq_n ?_
    refine wc_ret ?_
    refine sq_ret ?_
    obtain rfl := Option.some.inj hx
    refine fin_ret [(.int .i64 0), (.int .i64 0), (.bool false)] ⟨rfl, rfl, rfl, trivial⟩ ?_
    replace hM := hM.t0
    have hM := hM.fewer rsN
    exact ⟨(), rfl, hM.gives⟩
  · replace hx := xif_f hc82 hx
    refine wc_skip ?_
    refine sq_n ?_
    refine wc_seq ?_
    refine wc_seq ?_
    refine wc_region ?_
    refine wv rfl (r_move rfl) ?_
    refine wv rfl (r_move rfl) ?_
    refine wv rfl (r_lenC Try.underlying22 rfl (hM.seeO (.head _))) ?_
    obtain ⟨hg90, hx⟩ := xg_some hx
    refine wv rfl (r_sub rfl rfl hg90) ?_
    refine wv rfl (r_eql rfl rfl) ?_
    refine wl_nil ?_
    refine sq_n ?_
    refine wc_cond rfl (fun hc92 => ?_) (fun hc92 => ?_)
    · replace hx := xif_t hc92 hx
      refine wc_seq ?_
      refine wc_region ?_
      refine wv rfl (r_move rfl) ?_
      refine wv rfl (r_move rfl) ?_
      obtain ⟨hg97, hx⟩ := xg_some hx
      have hi96 : row.toNat < r66.length := by omega
      refine wv rfl (r_ixC Try.underlying22 sz3 rfl rfl (hM.seeO (.head _)) hg97) ?_
      refine wv rfl (r_ld Try.underlying3 rfl rfl (Cs.get (i := row.toNat) (j := 0) (hM.seeO (.head _)) (fun _ => rfl) hi96 rfl)) ?_
      refine wv rfl (r_move rfl) ?_
      refine wv rfl (r_lenC Try.underlying22 rfl (hM.seeR (.head _))) ?_
      refine wv rfl (r_assign rfl) ?_
      refine wv rfl (r_assign rfl) ?_
      refine wv rfl (r_assign rfl) ?_
      refine wl_nil ?_
      refine sq_n ?_
      refine wc_ret ?_
      refine sq_ret ?_
      obtain rfl := Option.some.inj hx
      refine fin_ret [(.int .i64 (el r66 row.toNat)), (.int .i64 (t.length : Int)), (.bool true)] ⟨rfl, rfl, rfl, trivial⟩ ?_
      replace hM := hM.t0
      have hM := hM.fewer rsN
      exact ⟨(), rfl, hM.gives⟩
    · replace hx := xif_f hc92 hx
      refine wc_skip ?_
      refine sq_n ?_
      refine wc_seq ?_
      refine wc_draw [(0, 0), (1, 0), (2, 0), (3, 0), (4, 0), (5, 0), (6, 0), (7, 0), (8, 0), (9, 0), (10, 0), (11, 0), (12, 0)] Try_mixed (by kernel_rfl) rfl (by kernel_rfl) rfl ?_
      refine ov rfl (fun w' h' => r_move rfl) ?_
      refine ov rfl (fun w' h' => r_move rfl) ?_
      obtain ⟨hg108, hx⟩ := xg_some hx
      have hi107 : row.toNat < r66.length := by omega
      refine ov rfl (fun w' h' => r_ixC Try.underlying22 sz3 rfl rfl ((hM.call h').seeO (.head _)) hg108) ?_
      refine ov rfl (fun w' h' => r_ld Try.underlying3 rfl rfl (Cs.get (i := row.toNat) (j := 0) ((hM.call h').seeO (.head _)) (fun _ => rfl) hi107 rfl)) ?_
      refine ov rfl (fun w' h' => r_move rfl) ?_
      refine ov rfl (fun w' h' => r_move rfl) ?_
      obtain ⟨hg113, hx⟩ := xg_some hx
      refine ov rfl (fun w' h' => r_add rfl rfl hg113) ?_
      obtain ⟨hg116, hx⟩ := xg_some hx
      have hi115 : ((row + 1).toNat) < r66.length := by omega
      refine ov rfl (fun w' h' => r_ixC Try.underlying22 sz3 rfl rfl ((hM.call h').seeO (.head _)) hg116) ?_
      refine ov rfl (fun w' h' => r_ld Try.underlying3 rfl rfl (Cs.get (i := ((row + 1).toNat)) (j := 0) ((hM.call h').seeO (.head _)) (fun _ => rfl) hi115 rfl)) ?_
      obtain ⟨hg119, hx⟩ := xg_some hx
      refine ov rfl (fun w' h' => r_sub rfl rfl hg119) ?_
      refine ov rfl (fun w' h' => r_assign rfl) ?_
      refine ov rfl (fun w' h' => r_assign rfl) ?_
      refine ov rfl (fun w' h' => r_assign rfl) ?_
      refine o_nil fun w123 hw124 => ?_
      have hM := hM.call hw124
      refine sq_n ?_
      refine wc_ret ?_
      obtain rfl := Option.some.inj hx
      refine fin_ret [(.int .i64 (el r66 row.toNat)), (.int .i64 ((el r66 ((row + 1).toNat)) - 1)), (.bool true)] ⟨rfl, rfl, rfl, trivial⟩ ?_
      replace hM := hM.t0
      have hM := hM.fewer rsN
      exact ⟨(), rfl, hM.gives⟩

noncomputable def x_spec_RowsPut (t : List Int) (row : Int) (l : List Int) : Option (List DPart × Bool) :=
  Option.bind (x_spec_TextOk t) fun r4 => Option.bind (bif !r4 then (some true) else (Option.bind (x_spec_RowCount t) fun r25 => Option.bind (x_spec_l01In row 0 r25) fun r29 => some (!r29))) fun c10 => bif c10 then (some ([], false)) else (Option.bind (x_spec_RowCount t) fun r38 => bif decide (row = r38) then (xg ([10].length + l.length ≤ 1099511627776) <| Option.bind (x_spec_PutAt (t.length : Int) (t.length : Int) ([10] ++ l)) fun r56 => some (r56.1, r56.2)) else (Option.bind (x_spec_l26Ends t row) fun r67 => xg (0 + l.length ≤ 1099511627776) <| xg (([] ++ l).length < 1099511627776) <| Option.bind (x_spec_PutAt (t.length : Int) r67.1 (([] ++ l) ++ [10])) fun r94 => some (r94.1, r94.2)))
theorem ct_spec_RowsPut (w : World) (X S : Bs) (t : List Int) (s_t : Sv) (row : Int) (l : List Int) (s_l : Sv) (hS : ∀ b, S b → b < w.heap.size ∧ ¬ X b) (a_t_0 : (cSl 1 fI t).rd S w s_t.v) (a_l_0 : (cSl 1 fI l).rd S w s_l.v) (oL : Sep [] X w) {r : List DPart × Bool} (hx : x_spec_RowsPut t row l = some r) :
    Ret Try.prog 7 [s_t.v, (.int .i64 row), s_l.v] w (fun u w' => ∃ y : Sv, u = .tuple #[y.v, (.bool r.2)] ∧ Gives X S w [oC (cSl 3 fDPart r.1) y.v] [] w') := by
  unfold x_spec_RowsPut at hx
  refine enter Try.func7 rfl Try.ntmps7 (by kernel_rfl) rfl ?_
  have hM := St.enter oL hS
  have hM := hM.addE (r := rV s_t.v (cSl 1 fI t)) a_t_0
  have hM := hM.addE (r := rV s_l.v (cSl 1 fI l)) a_l_0
  refine wc_seq ?_
  refine wc_region ?_
  refine wv rfl (r_assign rfl) ?_
  refine wv rfl (r_assign rfl) ?_
  refine wl_nil ?_
  refine sq_n ?_
  refine wc_seq ?_
  refine wc_seq ?_
  refine wc_region ?_
  refine wv rfl (r_move rfl) ?_
  obtain ⟨r106, h107, hx⟩ := bind_some' hx
  refine w_call rfl rfl (hM.callV fun X S oL hS hR hO => ct_spec_TextOk _ X S t s_t hS (hR _ (.tail _ (.head _))) oL h107) ?_
  rintro _ w108 ⟨rfl, hR109⟩
  have hM := hM.call hR109
  refine wv rfl (r_not rfl) ?_
  refine wv rfl (r_move rfl) ?_
  obtain ⟨c112, hx, hx125⟩ := bind_some' hx
  refine wl_mid 6 (fun _ : Unit => [(20, (.bool c112)), (0, s_t.v), (1, (.int .i64 row)), (2, s_l.v)]) (fun _ w' => St ⟨w, X, S⟩ [] [rV s_l.v (cSl 1 fI l), rV s_t.v (cSl 1 fI t)] w') ?_ ?_
  · rcases Bool.eq_false_or_eq_true (!r106) with hg113 | hg113
    · replace hx := xif_t hg113 hx
      refine gs rfl (isB_no hg113) rfl ?_
      refine gs rfl (isB_no hg113) rfl ?_
      refine gs rfl (isB_no hg113) rfl ?_
      refine gs rfl (isB_no hg113) rfl ?_
      refine gs rfl (isB_no hg113) rfl ?_
      refine wv rfl (p_t rfl hg113 rfl) ?_
      obtain rfl := Option.some.inj hx
      exact mid_nil () ⟨rfl, rfl, rfl, rfl, trivial⟩ hM
    · replace hx := xif_f hg113 hx
      refine gv rfl hg113 rfl (r_move rfl) ?_
      refine gv rfl hg113 rfl (r_move rfl) ?_
      obtain ⟨r128, h129, hx⟩ := bind_some' hx
      refine gc rfl hg113 rfl rfl (hM.callV fun X S oL hS hR hO => ct_spec_RowCount _ X S t s_t hS (hR _ (.tail _ (.head _))) oL h129) ?_
      rintro _ w130 ⟨rfl, hR131⟩
      have hM := hM.call hR131
      obtain ⟨r132, h133, hx⟩ := bind_some' hx
      refine gc rfl hg113 rfl rfl (hM.callV fun X S oL hS hR hO => ct_spec_l01In _ X S row (0 : Int) r128 hS  oL h133) ?_
      rintro _ w134 ⟨rfl, hR135⟩
      have hM := hM.call hR135
      refine gv rfl hg113 rfl (r_not rfl) ?_
      refine wv rfl (p_f rfl hg113 rfl) ?_
      obtain rfl := Option.some.inj hx
      exact mid_nil () ⟨rfl, rfl, rfl, rfl, trivial⟩ hM
  rintro _ w137 hM
  replace hx := hx125
  refine wl_nil ?_
  refine sq_n ?_
  refine wc_cond rfl (fun hc138 => ?_) (fun hc138 => ?_)
  · replace hx := xif_t hc138 hx
    refine wc_seq ?_
    refine wc_region ?_
    refine wv rfl (r_assign rfl) ?_
    refine wv rfl (r_assign rfl) ?_
    refine wl_nil ?_
    refine sq_n ?_
    refine wc_ret ?_
    refine sq_ret ?_
    obtain rfl := Option.some.inj hx
    have hM := hM.nil0 (T := DPart) 3 fDPart
    refine fin_ret [nS.v, (.bool false)] ⟨rfl, rfl, trivial⟩ ?_
    replace hM := hM.t1
    have hM := hM.fewer rsN
    exact ⟨nS, rfl, hM.gives⟩
  · replace hx := xif_f hc138 hx
    refine wc_skip ?_
    refine sq_n ?_
    refine wc_seq ?_
    refine wc_seq ?_
    refine wc_region ?_
    refine wv rfl (r_move rfl) ?_
    refine wv rfl (r_move rfl) ?_
    obtain ⟨r144, h145, hx⟩ := bind_some' hx
    refine w_call rfl rfl (hM.callV fun X S oL hS hR hO => ct_spec_RowCount _ X S t s_t hS (hR _ (.tail _ (.head _))) oL h145) ?_
    rintro _ w146 ⟨rfl, hR147⟩
    have hM := hM.call hR147
    refine wv rfl (r_eql rfl rfl) ?_
    refine wl_nil ?_
    refine sq_n ?_
    refine wc_cond rfl (fun hc149 => ?_) (fun hc149 => ?_)
    · replace hx := xif_t hc149 hx
      refine wc_seq ?_
      refine wc_region ?_
      refine wv rfl (r_move rfl) ?_
      refine wv rfl (r_lenC Try.underlying22 rfl (hM.seeR (.tail _ (.head _)))) ?_
      refine wv rfl (r_move rfl) ?_
      refine wv rfl (r_lenC Try.underlying22 rfl (hM.seeR (.tail _ (.head _)))) ?_
      refine w_ex rfl (x_lit (f := fI) (own := []) [10] [(.int .i64 10)] 1 Try.underlying22 sz3 (fun _ => rfl) rfl rfl rfl rfl rfl (by kernel_rfl) (fun _ => zP (pV _ rfl) zN) hM ?_); intro s155 w154 hR156 hM
      refine wv rfl (r_move rfl) ?_
      obtain ⟨hg161, hx⟩ := xg_some hx
      refine w_ex rfl (x_append Try.underlying22 sz3 rfl rfl (hM.seeR (.head _)) flI hM hg161 rfl ?_); intro s160 w159 hM
      obtain ⟨r163, h164, hx⟩ := bind_some' hx
      refine w_call rfl rfl (hM.callO (l := []) fun X S oL hS hR hO => ct_spec_PutAt _ X S (t.length : Int) (t.length : Int) ([10] ++ l) s160 hS (seeA hO (.head _)) oL h164) ?_
      rintro _ w165 ⟨s166, rfl, hM⟩
      replace hM : St ⟨w, X, S⟩ [oC (cSl 3 fDPart r163.1) s166.v, oC (cSl 1 fI ([10] ++ l)) s160.v] [rV s_l.v (cSl 1 fI l), rV s_t.v (cSl 1 fI t)] _ := hM
      refine wv rfl (r_extract rfl rfl) ?_
      refine wv rfl (r_extract rfl rfl) ?_
      refine wv rfl (r_assign rfl) ?_
      refine wv rfl (r_assign rfl) ?_
      refine wl_nil ?_
      refine sq_n ?_
      refine wc_ret ?_
      refine sq_ret ?_
      obtain rfl := Option.some.inj hx
      refine fin_ret [s166.v, (.bool r163.2)] ⟨rfl, rfl, trivial⟩ ?_
      replace hM := hM.t1
      have hM := hM.fewer rsN
      exact ⟨s166, rfl, hM.gives⟩
    · replace hx := xif_f hc149 hx
      refine wc_skip ?_
      refine sq_n ?_
      refine wc_seq ?_
      refine wc_region ?_
      refine wv rfl (r_move rfl) ?_
      refine wv rfl (r_move rfl) ?_
      obtain ⟨r174, h175, hx⟩ := bind_some' hx
      refine w_call rfl rfl (hM.callV fun X S oL hS hR hO => ct_spec_l26Ends _ X S t s_t row hS (hR _ (.tail _ (.head _))) oL h175) ?_
      rintro _ w176 ⟨rfl, hR177⟩
      have hM := hM.call hR177
      refine wv rfl (r_move rfl) ?_
      refine wv rfl (r_extract rfl rfl) ?_
      refine wv rfl (r_extract rfl rfl) ?_
      refine wv rfl (r_extract rfl rfl) ?_
      refine wv rfl (r_assign rfl) ?_
      refine wv rfl (r_assign rfl) ?_
      refine wv rfl (r_assign rfl) ?_
      refine wl_nil ?_
      refine sq_n ?_
      refine wc_seq ?_
      refine wc_region ?_
      refine wv rfl (r_move rfl) ?_
      refine wv rfl (r_lenC Try.underlying22 rfl (hM.seeR (.tail _ (.head _)))) ?_
      refine wv rfl (r_move rfl) ?_
      refine w_ex rfl (x_empty (f := fI) Try.underlying22 sz3 (fun _ => rfl) hM ?_); intro s189 w188 hR190 hM
      refine wv rfl (r_move rfl) ?_
      obtain ⟨hg195, hx⟩ := xg_some hx
      refine w_ex rfl (x_append Try.underlying22 sz3 rfl rfl (hM.seeR (.head _)) flI hM hg195 rfl ?_); intro s194 w193 hM
      obtain ⟨hg200, hx⟩ := xg_some hx
      refine w_push (f := fI) 10 rfl rfl Try.underlying22 sz3 rfl rfl rfl rfl (fun _ => rfl) hM (fun _ => zP (pV _ rfl) zN) rfl hg200 rfl ?_; intro u198 s199 w197 hM
      obtain ⟨r201, h202, hx⟩ := bind_some' hx
      refine w_call rfl rfl (hM.callO (l := []) fun X S oL hS hR hO => ct_spec_PutAt _ X S (t.length : Int) r174.1 (([] ++ l) ++ [10]) s199 hS (seeA hO (.head _)) oL h202) ?_
      rintro _ w203 ⟨s204, rfl, hM⟩
      replace hM : St ⟨w, X, S⟩ [oC (cSl 3 fDPart r201.1) s204.v, oC (cSl 1 fI (([] ++ l) ++ [10])) s199.v] [rV s_l.v (cSl 1 fI l), rV s_t.v (cSl 1 fI t)] _ := hM
      refine wv rfl (r_extract rfl rfl) ?_
      refine wv rfl (r_extract rfl rfl) ?_
      refine wv rfl (r_assign rfl) ?_
      refine wv rfl (r_assign rfl) ?_
      refine wl_nil ?_
      refine sq_n ?_
      refine wc_ret ?_
      obtain rfl := Option.some.inj hx
      refine fin_ret [s204.v, (.bool r201.2)] ⟨rfl, rfl, trivial⟩ ?_
      replace hM := hM.t1
      have hM := hM.fewer rsN
      exact ⟨s204, rfl, hM.gives⟩

noncomputable def x_impl_rowEnds (t : List Int) (row : Int) : Option (Int × Int × Bool) :=
  Option.bind (x_impl_Rows t) fun r5 => xg (inI ((r5.length : Int) - 1)) <| Option.bind (x_impl_within row 0 ((r5.length : Int) - 1)) fun r16 => bif !r16 then (some (0, 0, false)) else (xg (inI (row + 1)) <| bif decide ((row + 1) < (r5.length : Int)) then (xg (0 ≤ row ∧ row < (r5.length : Int)) <| xg (inI (row + 1)) <| xg (0 ≤ (row + 1) ∧ (row + 1) < (r5.length : Int)) <| xg (inI ((el r5 ((row + 1).toNat)) - 1)) <| some (el r5 row.toNat, (el r5 ((row + 1).toNat)) - 1, true)) else (xg (0 ≤ row ∧ row < (r5.length : Int)) <| some (el r5 row.toNat, (t.length : Int), true)))
theorem ct_impl_rowEnds (w : World) (X S : Bs) (t : List Int) (s_t : Sv) (row : Int) (hS : ∀ b, S b → b < w.heap.size ∧ ¬ X b) (a_t_0 : (cSl 1 fI t).rd S w s_t.v) (oL : Sep [] X w) {r : Int × Int × Bool} (hx : x_impl_rowEnds t row = some r) :
    Ret Try.prog 55 [s_t.v, (.int .i64 row)] w (fun u w' => ∃ _ : Unit, u = .tuple #[(.int .i64 r.1), (.int .i64 r.2.1), (.bool r.2.2)] ∧ Gives X S w [] [] w') := by
  unfold x_impl_rowEnds at hx
  refine enter Try.func55 rfl Try.ntmps55 (by kernel_rfl) rfl ?_
  have hM := St.enter oL hS
  have hM := hM.addE (r := rV s_t.v (cSl 1 fI t)) a_t_0
  refine wc_seq ?_
  refine wc_region ?_
  refine wv rfl (r_assign rfl) ?_
  refine wv rfl (r_assign rfl) ?_
  refine wv rfl (r_assign rfl) ?_
  refine wl_nil ?_
  refine sq_n ?_
  refine wc_seq ?_
  refine wc_region ?_
  refine wv rfl (r_move rfl) ?_
  obtain ⟨r66, h67, hx⟩ := bind_some' hx
  refine w_call rfl rfl (hM.callO (l := []) fun X S oL hS hR hO => ct_impl_Rows _ X S t s_t hS (hR _ (.head _)) oL h67) ?_
  rintro _ w68 ⟨s69, rfl, hM⟩
  replace hM : St ⟨w, X, S⟩ [oC (cSl 1 fI r66) s69.v] [rV s_t.v (cSl 1 fI t)] _ := hM
  refine wv rfl (r_assign rfl) ?_
  refine wl_nil ?_
  refine sq_n ?_
  refine wc_seq ?_
  refine wc_seq ?_
  refine wc_region ?_
  refine wv rfl (r_move rfl) ?_
  refine wv rfl (r_move rfl) ?_
  refine wv rfl (r_lenC Try.underlying22 rfl (hM.seeO (.head _))) ?_
  obtain ⟨hg76, hx⟩ := xg_some hx
  refine wv rfl (r_sub rfl rfl hg76) ?_
  obtain ⟨r77, h78, hx⟩ := bind_some' hx
  refine w_call rfl rfl (hM.callV fun X S oL hS hR hO => ct_impl_within _ X S row (0 : Int) ((r66.length : Int) - 1) hS  oL h78) ?_
  rintro _ w79 ⟨rfl, hR80⟩
  have hM := hM.call hR80
  refine wv rfl (r_not rfl) ?_
  refine wl_nil ?_
  refine sq_n ?_
  refine wc_cond rfl (fun hc82 => ?_) (fun hc82 => ?_)
  · replace hx := xif_t hc82 hx
    refine wc_seq ?_
    refine wc_region ?_
    refine wv rfl (r_assign rfl) ?_
    refine wv rfl (r_assign rfl) ?_
    refine wv rfl (r_assign rfl) ?_
    refine wl_nil ?_
    refine sq_n ?_
    refine wc_ret ?_
    refine sq_ret ?_
    obtain rfl := Option.some.inj hx
    refine fin_ret [(.int .i64 0), (.int .i64 0), (.bool false)] ⟨rfl, rfl, rfl, trivial⟩ ?_
    replace hM := hM.t0
    have hM := hM.fewer rsN
    exact ⟨(), rfl, hM.gives⟩
  · replace hx := xif_f hc82 hx
    refine wc_skip ?_
    refine sq_n ?_
    refine wc_seq ?_
    refine wc_seq ?_
    refine wc_region ?_
    refine wv rfl (r_move rfl) ?_
    obtain ⟨hg88, hx⟩ := xg_some hx
    refine wv rfl (r_add rfl rfl hg88) ?_
    refine wv rfl (r_move rfl) ?_
    refine wv rfl (r_lenC Try.underlying22 rfl (hM.seeO (.head _))) ?_
    refine wv rfl (r_lss rfl rfl) ?_
    refine wl_nil ?_
    refine sq_n ?_
    refine wc_cond rfl (fun hc92 => ?_) (fun hc92 => ?_)
    · replace hx := xif_t hc92 hx
      refine wc_seq ?_
      refine wc_draw [(0, 0), (1, 0), (2, 0), (3, 0), (4, 0), (5, 0), (6, 0), (7, 0), (8, 0), (9, 0), (10, 0), (11, 0), (12, 0)] Try_mixed (by kernel_rfl) rfl (by kernel_rfl) rfl ?_
      refine ov rfl (fun w' h' => r_move rfl) ?_
      refine ov rfl (fun w' h' => r_move rfl) ?_
      obtain ⟨hg97, hx⟩ := xg_some hx
      have hi96 : row.toNat < r66.length := by omega
      refine ov rfl (fun w' h' => r_ixC Try.underlying22 sz3 rfl rfl ((hM.call h').seeO (.head _)) hg97) ?_
      refine ov rfl (fun w' h' => r_ld Try.underlying3 rfl rfl (Cs.get (i := row.toNat) (j := 0) ((hM.call h').seeO (.head _)) (fun _ => rfl) hi96 rfl)) ?_
      refine ov rfl (fun w' h' => r_move rfl) ?_
      refine ov rfl (fun w' h' => r_move rfl) ?_
      obtain ⟨hg102, hx⟩ := xg_some hx
      refine ov rfl (fun w' h' => r_add rfl rfl hg102) ?_
      obtain ⟨hg105, hx⟩ := xg_some hx
      have hi104 : ((row + 1).toNat) < r66.length := by omega
      refine ov rfl (fun w' h' => r_ixC Try.underlying22 sz3 rfl rfl ((hM.call h').seeO (.head _)) hg105) ?_
      refine ov rfl (fun w' h' => r_ld Try.underlying3 rfl rfl (Cs.get (i := ((row + 1).toNat)) (j := 0) ((hM.call h').seeO (.head _)) (fun _ => rfl) hi104 rfl)) ?_
      obtain ⟨hg108, hx⟩ := xg_some hx
      refine ov rfl (fun w' h' => r_sub rfl rfl hg108) ?_
      refine ov rfl (fun w' h' => r_assign rfl) ?_
      refine ov rfl (fun w' h' => r_assign rfl) ?_
      refine ov rfl (fun w' h' => r_assign rfl) ?_
      refine o_nil fun w112 hw113 => ?_
      have hM := hM.call hw113
      refine sq_n ?_
      refine wc_ret ?_
      refine sq_ret ?_
      obtain rfl := Option.some.inj hx
      refine fin_ret [(.int .i64 (el r66 row.toNat)), (.int .i64 ((el r66 ((row + 1).toNat)) - 1)), (.bool true)] ⟨rfl, rfl, rfl, trivial⟩ ?_
      replace hM := hM.t0
      have hM := hM.fewer rsN
      exact ⟨(), rfl, hM.gives⟩
    · replace hx := xif_f hc92 hx
      refine wc_skip ?_
      refine sq_n ?_
      refine wc_seq ?_
      refine wc_region ?_
      refine wv rfl (r_move rfl) ?_
      refine wv rfl (r_move rfl) ?_
      obtain ⟨hg118, hx⟩ := xg_some hx
      have hi117 : row.toNat < r66.length := by omega
      refine wv rfl (r_ixC Try.underlying22 sz3 rfl rfl (hM.seeO (.head _)) hg118) ?_
      refine wv rfl (r_ld Try.underlying3 rfl rfl (Cs.get (i := row.toNat) (j := 0) (hM.seeO (.head _)) (fun _ => rfl) hi117 rfl)) ?_
      refine wv rfl (r_move rfl) ?_
      refine wv rfl (r_lenC Try.underlying22 rfl (hM.seeR (.head _))) ?_
      refine wv rfl (r_assign rfl) ?_
      refine wv rfl (r_assign rfl) ?_
      refine wv rfl (r_assign rfl) ?_
      refine wl_nil ?_
      refine sq_n ?_
      refine wc_ret ?_
      obtain rfl := Option.some.inj hx
      refine fin_ret [(.int .i64 (el r66 row.toNat)), (.int .i64 (t.length : Int)), (.bool true)] ⟨rfl, rfl, rfl, trivial⟩ ?_
      replace hM := hM.t0
      have hM := hM.fewer rsN
      exact ⟨(), rfl, hM.gives⟩

noncomputable def x_impl_RowsDrop (t : List Int) (row : Int) : Option (List DPart × Bool) :=
  Option.bind (x_impl_rowEnds t row) fun r5 => bif !r5.2.2 then (some ([], false)) else (bif decide (r5.2.1 < (t.length : Int)) then (xg (inI (r5.2.1 + 1)) <| xg (inI ((r5.2.1 + 1) - r5.1)) <| Option.bind (x_impl_DropAt (t.length : Int) r5.1 ((r5.2.1 + 1) - r5.1)) fun r37 => some (r37.1, r37.2)) else (bif decide ((0 : Int) < r5.1) then (xg (inI (r5.1 - 1)) <| xg (inI (r5.2.1 - (r5.1 - 1))) <| Option.bind (x_impl_DropAt (t.length : Int) (r5.1 - 1) (r5.2.1 - (r5.1 - 1))) fun r60 => some (r60.1, r60.2)) else (xg (inI (r5.2.1 - r5.1)) <| Option.bind (x_impl_DropAt (t.length : Int) r5.1 (r5.2.1 - r5.1)) fun r76 => some (r76.1, r76.2))))
theorem ct_impl_RowsDrop (w : World) (X S : Bs) (t : List Int) (s_t : Sv) (row : Int) (hS : ∀ b, S b → b < w.heap.size ∧ ¬ X b) (a_t_0 : (cSl 1 fI t).rd S w s_t.v) (oL : Sep [] X w) {r : List DPart × Bool} (hx : x_impl_RowsDrop t row = some r) :
    Ret Try.prog 20 [s_t.v, (.int .i64 row)] w (fun u w' => ∃ y : Sv, u = .tuple #[y.v, (.bool r.2)] ∧ Gives X S w [oC (cSl 3 fDPart r.1) y.v] [] w') := by
  unfold x_impl_RowsDrop at hx
  refine enter Try.func20 rfl Try.ntmps20 (by kernel_rfl) rfl ?_
  have hM := St.enter oL hS
  have hM := hM.addE (r := rV s_t.v (cSl 1 fI t)) a_t_0
  refine wc_seq ?_
  refine wc_region ?_
  refine wv rfl (r_assign rfl) ?_
  refine wv rfl (r_assign rfl) ?_
  refine wl_nil ?_
  refine sq_n ?_
  refine wc_seq ?_
  refine wc_region ?_
  refine wv rfl (r_move rfl) ?_
  refine wv rfl (r_move rfl) ?_
  obtain ⟨r89, h90, hx⟩ := bind_some' hx
  refine w_call rfl rfl (hM.callV fun X S oL hS hR hO => ct_impl_rowEnds _ X S t s_t row hS (hR _ (.head _)) oL h90) ?_
  rintro _ w91 ⟨rfl, hR92⟩
  have hM := hM.call hR92
  refine wv rfl (r_move rfl) ?_
  refine wv rfl (r_extract rfl rfl) ?_
  refine wv rfl (r_extract rfl rfl) ?_
  refine wv rfl (r_extract rfl rfl) ?_
  refine wv rfl (r_assign rfl) ?_
  refine wv rfl (r_assign rfl) ?_
  refine wv rfl (r_assign rfl) ?_
  refine wl_nil ?_
  refine sq_n ?_
  refine wc_seq ?_
  refine wc_block ?_
  refine wc_seq ?_
  refine wc_region ?_
  refine wv rfl (r_move rfl) ?_
  refine wv rfl (r_not rfl) ?_
  refine wv rfl (r_assign rfl) ?_
  refine wl_nil ?_
  refine sq_n ?_
  refine wc_cond rfl (fun hc103 => ?_) (fun hc103 => ?_)
  · replace hx := xif_t hc103 hx
    refine wc_seq ?_
    refine wc_region ?_
    refine wv rfl (r_assign rfl) ?_
    refine wv rfl (r_assign rfl) ?_
    refine wl_nil ?_
    refine sq_n ?_
    refine wc_ret ?_
    refine bk_ret ?_
    refine sq_ret ?_
    obtain rfl := Option.some.inj hx
    have hM := hM.nil0 (T := DPart) 3 fDPart
    refine fin_ret [nS.v, (.bool false)] ⟨rfl, rfl, trivial⟩ ?_
    replace hM := hM.t1
    have hM := hM.fewer rsN
    exact ⟨nS, rfl, hM.gives⟩
  · replace hx := xif_f hc103 hx
    refine wc_seq ?_
    refine wc_region ?_
    refine wv rfl (r_move rfl) ?_
    refine wv rfl (r_move rfl) ?_
    refine wv rfl (r_lenC Try.underlying22 rfl (hM.seeR (.head _))) ?_
    refine wv rfl (r_lss rfl rfl) ?_
    refine wv rfl (r_assign rfl) ?_
    refine wl_nil ?_
    refine sq_n ?_
    refine wc_cond rfl (fun hc112 => ?_) (fun hc112 => ?_)
    · replace hx := xif_t hc112 hx
      refine wc_region ?_
      refine wv rfl (r_move rfl) ?_
      obtain ⟨hg115, hx⟩ := xg_some hx
      refine wv rfl (r_add rfl rfl hg115) ?_
      refine wv rfl (r_assign rfl) ?_
      refine wl_nil ?_
      refine bk_n ?_
      refine sq_n ?_
      refine wc_seq ?_
      refine wc_region ?_
      refine wv rfl (r_move rfl) ?_
      refine wv rfl (r_lenC Try.underlying22 rfl (hM.seeR (.head _))) ?_
      refine wv rfl (r_move rfl) ?_
      refine wv rfl (r_move rfl) ?_
      refine wv rfl (r_move rfl) ?_
      obtain ⟨hg123, hx⟩ := xg_some hx
      refine wv rfl (r_sub rfl rfl hg123) ?_
      obtain ⟨r124, h125, hx⟩ := bind_some' hx
      refine w_call rfl rfl (hM.callO (l := []) fun X S oL hS hR hO => ct_impl_DropAt _ X S (t.length : Int) r89.1 ((r89.2.1 + 1) - r89.1) hS  oL h125) ?_
      rintro _ w126 ⟨s127, rfl, hM⟩
      replace hM : St ⟨w, X, S⟩ [oC (cSl 3 fDPart r124.1) s127.v] [rV s_t.v (cSl 1 fI t)] _ := hM
      refine wv rfl (r_extract rfl rfl) ?_
      refine wv rfl (r_extract rfl rfl) ?_
      refine wv rfl (r_assign rfl) ?_
      refine wv rfl (r_assign rfl) ?_
      refine wl_nil ?_
      refine sq_n ?_
      refine wc_ret ?_
      obtain rfl := Option.some.inj hx
      refine fin_ret [s127.v, (.bool r124.2)] ⟨rfl, rfl, trivial⟩ ?_
      replace hM := hM.t1
      have hM := hM.fewer rsN
      exact ⟨s127, rfl, hM.gives⟩
    · replace hx := xif_f hc112 hx
      refine wc_seq ?_
      refine wc_region ?_
      refine wv rfl (r_move rfl) ?_
      refine wv rfl (r_gtr rfl rfl) ?_
      refine wv rfl (r_assign rfl) ?_
      refine wl_nil ?_
      refine sq_n ?_
      refine wc_cond rfl (fun hc136 => ?_) (fun hc136 => ?_)
      · replace hx := xif_t hc136 hx
        refine wc_region ?_
        refine wv rfl (r_move rfl) ?_
        obtain ⟨hg139, hx⟩ := xg_some hx
        refine wv rfl (r_sub rfl rfl hg139) ?_
        refine wv rfl (r_assign rfl) ?_
        refine wl_nil ?_
        refine bk_n ?_
        refine sq_n ?_
        refine wc_seq ?_
        refine wc_region ?_
        refine wv rfl (r_move rfl) ?_
        refine wv rfl (r_lenC Try.underlying22 rfl (hM.seeR (.head _))) ?_
        refine wv rfl (r_move rfl) ?_
        refine wv rfl (r_move rfl) ?_
        refine wv rfl (r_move rfl) ?_
        obtain ⟨hg147, hx⟩ := xg_some hx
        refine wv rfl (r_sub rfl rfl hg147) ?_
        obtain ⟨r148, h149, hx⟩ := bind_some' hx
        refine w_call rfl rfl (hM.callO (l := []) fun X S oL hS hR hO => ct_impl_DropAt _ X S (t.length : Int) (r89.1 - 1) (r89.2.1 - (r89.1 - 1)) hS  oL h149) ?_
        rintro _ w150 ⟨s151, rfl, hM⟩
        replace hM : St ⟨w, X, S⟩ [oC (cSl 3 fDPart r148.1) s151.v] [rV s_t.v (cSl 1 fI t)] _ := hM
        refine wv rfl (r_extract rfl rfl) ?_
        refine wv rfl (r_extract rfl rfl) ?_
        refine wv rfl (r_assign rfl) ?_
        refine wv rfl (r_assign rfl) ?_
        refine wl_nil ?_
        refine sq_n ?_
        refine wc_ret ?_
        obtain rfl := Option.some.inj hx
        refine fin_ret [s151.v, (.bool r148.2)] ⟨rfl, rfl, trivial⟩ ?_
        replace hM := hM.t1
        have hM := hM.fewer rsN
        exact ⟨s151, rfl, hM.gives⟩
      · replace hx := xif_f hc136 hx
        refine wc_skip ?_
        refine bk_n ?_
        refine sq_n ?_
        refine wc_seq ?_
        refine wc_region ?_
        refine wv rfl (r_move rfl) ?_
        refine wv rfl (r_lenC Try.underlying22 rfl (hM.seeR (.head _))) ?_
        refine wv rfl (r_move rfl) ?_
        refine wv rfl (r_move rfl) ?_
        refine wv rfl (r_move rfl) ?_
        obtain ⟨hg163, hx⟩ := xg_some hx
        refine wv rfl (r_sub rfl rfl hg163) ?_
        obtain ⟨r164, h165, hx⟩ := bind_some' hx
        refine w_call rfl rfl (hM.callO (l := []) fun X S oL hS hR hO => ct_impl_DropAt _ X S (t.length : Int) r89.1 (r89.2.1 - r89.1) hS  oL h165) ?_
        rintro _ w166 ⟨s167, rfl, hM⟩
        replace hM : St ⟨w, X, S⟩ [oC (cSl 3 fDPart r164.1) s167.v] [rV s_t.v (cSl 1 fI t)] _ := hM
        refine wv rfl (r_extract rfl rfl) ?_
        refine wv rfl (r_extract rfl rfl) ?_
        refine wv rfl (r_assign rfl) ?_
        refine wv rfl (r_assign rfl) ?_
        refine wl_nil ?_
        refine sq_n ?_
        refine wc_ret ?_
        obtain rfl := Option.some.inj hx
        refine fin_ret [s167.v, (.bool r164.2)] ⟨rfl, rfl, trivial⟩ ?_
        replace hM := hM.t1
        have hM := hM.fewer rsN
        exact ⟨s167, rfl, hM.gives⟩

noncomputable def x_impl_RowOf_b0 (r33 : List Int) (at_ : Int) (k44 : Int) : Option (Lr Int Int) :=
  xg (0 ≤ k44 ∧ k44 < (r33.length : Int)) <| bif decide (at_ < (el r33 k44.toNat)) then (xg (inI (k44 - 1)) <| some (Lr.go (k44 - 1))) else (some (Lr.out k44))
noncomputable def x_impl_RowOf_f0 (r33 : List Int) (at_ : Int) (s69 : Int) : Option (Lr Int Int) := x_impl_RowOf_b0 r33 at_ s69
noncomputable def x_impl_RowOf (t : List Int) (at_ : Int) : Option (Int × Int × Bool) :=
  Option.bind (x_impl_TextOk t) fun r5 => Option.bind (bif !r5 then (some true) else (Option.bind (x_impl_within at_ 0 (t.length : Int)) fun r24 => some (!r24))) fun c11 => bif c11 then (some (0, 0, false)) else (Option.bind (x_impl_Rows t) fun r33 => xg (inI ((r33.length : Int) - 1)) <| Option.bind (iter (x_impl_RowOf_f0 r33 at_) ((r33.length : Int) - 1)) fun (y70 : Int) => xg (0 ≤ y70 ∧ y70 < (r33.length : Int)) <| xg (inI (at_ - (el r33 y70.toNat))) <| some (y70, at_ - (el r33 y70.toNat), true))
theorem ct_impl_RowOf (w : World) (X S : Bs) (t : List Int) (s_t : Sv) (at_ : Int) (hS : ∀ b, S b → b < w.heap.size ∧ ¬ X b) (a_t_0 : (cSl 1 fI t).rd S w s_t.v) (oL : Sep [] X w) {r : Int × Int × Bool} (hx : x_impl_RowOf t at_ = some r) :
    Ret Try.prog 59 [s_t.v, (.int .i64 at_)] w (fun u w' => ∃ _ : Unit, u = .tuple #[(.int .i64 r.1), (.int .i64 r.2.1), (.bool r.2.2)] ∧ Gives X S w [] [] w') := by
  unfold x_impl_RowOf at hx
  refine enter Try.func59 rfl Try.ntmps59 (by kernel_rfl) rfl ?_
  have hM := St.enter oL hS
  have hM := hM.addE (r := rV s_t.v (cSl 1 fI t)) a_t_0
  refine wc_seq ?_
  refine wc_region ?_
  refine wv rfl (r_assign rfl) ?_
  refine wv rfl (r_assign rfl) ?_
  refine wv rfl (r_assign rfl) ?_
  refine wl_nil ?_
  refine sq_n ?_
  refine wc_seq ?_
  refine wc_seq ?_
  refine wc_region ?_
  refine wv rfl (r_move rfl) ?_
  obtain ⟨r90, h91, hx⟩ := bind_some' hx
  refine w_call rfl rfl (hM.callV fun X S oL hS hR hO => ct_impl_TextOk _ X S t s_t hS (hR _ (.head _)) oL h91) ?_
  rintro _ w92 ⟨rfl, hR93⟩
  have hM := hM.call hR93
  refine wv rfl (r_not rfl) ?_
  refine wv rfl (r_move rfl) ?_
  obtain ⟨c96, hx, hx106⟩ := bind_some' hx
  refine wl_mid 6 (fun _ : Unit => [(18, (.bool c96)), (0, s_t.v), (1, (.int .i64 at_))]) (fun _ w' => St ⟨w, X, S⟩ [] [rV s_t.v (cSl 1 fI t)] w') ?_ ?_
  · rcases Bool.eq_false_or_eq_true (!r90) with hg97 | hg97
    · replace hx := xif_t hg97 hx
      refine gs rfl (isB_no hg97) rfl ?_
      refine gs rfl (isB_no hg97) rfl ?_
      refine gs rfl (isB_no hg97) rfl ?_
      refine gs rfl (isB_no hg97) rfl ?_
      refine gs rfl (isB_no hg97) rfl ?_
      refine wv rfl (p_t rfl hg97 rfl) ?_
      obtain rfl := Option.some.inj hx
      exact mid_nil () ⟨rfl, rfl, rfl, trivial⟩ hM
    · replace hx := xif_f hg97 hx
      refine gv rfl hg97 rfl (r_move rfl) ?_
      refine gv rfl hg97 rfl (r_move rfl) ?_
      refine gv rfl hg97 rfl (r_lenC Try.underlying22 rfl (hM.seeR (.head _))) ?_
      obtain ⟨r110, h111, hx⟩ := bind_some' hx
      refine gc rfl hg97 rfl rfl (hM.callV fun X S oL hS hR hO => ct_impl_within _ X S at_ (0 : Int) (t.length : Int) hS  oL h111) ?_
      rintro _ w112 ⟨rfl, hR113⟩
      have hM := hM.call hR113
      refine gv rfl hg97 rfl (r_not rfl) ?_
      refine wv rfl (p_f rfl hg97 rfl) ?_
      obtain rfl := Option.some.inj hx
      exact mid_nil () ⟨rfl, rfl, rfl, trivial⟩ hM
  rintro _ w115 hM
  replace hx := hx106
  refine wl_nil ?_
  refine sq_n ?_
  refine wc_cond rfl (fun hc116 => ?_) (fun hc116 => ?_)
  · replace hx := xif_t hc116 hx
    refine wc_seq ?_
    refine wc_region ?_
    refine wv rfl (r_assign rfl) ?_
    refine wv rfl (r_assign rfl) ?_
    refine wv rfl (r_assign rfl) ?_
    refine wl_nil ?_
    refine sq_n ?_
    refine wc_ret ?_
    refine sq_ret ?_
    obtain rfl := Option.some.inj hx
    refine fin_ret [(.int .i64 0), (.int .i64 0), (.bool false)] ⟨rfl, rfl, rfl, trivial⟩ ?_
    replace hM := hM.t0
    have hM := hM.fewer rsN
    exact ⟨(), rfl, hM.gives⟩
  · replace hx := xif_f hc116 hx
    refine wc_skip ?_
    refine sq_n ?_
    refine wc_seq ?_
    refine wc_region ?_
    refine wv rfl (r_move rfl) ?_
    obtain ⟨r121, h122, hx⟩ := bind_some' hx
    refine w_call rfl rfl (hM.callO (l := []) fun X S oL hS hR hO => ct_impl_Rows _ X S t s_t hS (hR _ (.head _)) oL h122) ?_
    rintro _ w123 ⟨s124, rfl, hM⟩
    replace hM : St ⟨w, X, S⟩ [oC (cSl 1 fI r121) s124.v] [rV s_t.v (cSl 1 fI t)] _ := hM
    refine wv rfl (r_assign rfl) ?_
    refine wl_nil ?_
    refine sq_n ?_
    refine wc_seq ?_
    refine wc_region ?_
    refine wv rfl (r_move rfl) ?_
    refine wv rfl (r_lenC Try.underlying22 rfl (hM.seeO (.head _))) ?_
    obtain ⟨hg130, hx⟩ := xg_some hx
    refine wv rfl (r_sub rfl rfl hg130) ?_
    refine wv rfl (r_assign rfl) ?_
    refine wl_nil ?_
    refine sq_n ?_
    refine wc_seq ?_
    refine wc_block ?_
    obtain ⟨y132, hx, hx133⟩ := bind_some' hx
    have hM := hM.fewer rsN
    replace hM : St ⟨w, X, S⟩ [oC (cSl 1 fI r121) s124.v] [] _ := hM
    obtain ⟨m137, hx⟩ := iter_run hx
    refine wc_loop (un fun (m135 : Nat) => fun (k134 : Int) => [(1, (.int .i64 at_)), (7, s124.v), (8, (.int .i64 k134))]) (un fun (m135 : Nat) => fun (k134 : Int) w' => St ⟨w, X, S⟩ [oC (cSl 1 fI r121) s124.v] [] w' ∧ iterN _ m135 k134 = some y132) (fun p => p.1) (m137, (r121.length : Int) - 1) ⟨rfl, rfl, rfl, trivial⟩ ⟨hM, hx⟩ ?_
    rintro ⟨m135, k134⟩ w138 ⟨hM, hx⟩
    obtain ⟨m139, z140, rfl, hx, hx141⟩ := iterN_step hx
    unfold x_impl_RowOf_f0 x_impl_RowOf_b0 at hx
    try dsimp only at hx
    refine wc_seq ?_
    refine wc_seq ?_
    refine wc_region ?_
    refine wv rfl (r_move rfl) ?_
    refine wv rfl (r_move rfl) ?_
    obtain ⟨hg146, hx⟩ := xg_some hx
    have hi145 : k134.toNat < r121.length := by omega
    refine wv rfl (r_ixC Try.underlying22 sz3 rfl rfl (hM.seeO (.head _)) hg146) ?_
    refine wv rfl (r_ld Try.underlying3 rfl rfl (Cs.get (i := k134.toNat) (j := 0) (hM.seeO (.head _)) (fun _ => rfl) hi145 rfl)) ?_
    refine wv rfl (r_move rfl) ?_
    refine wv rfl (r_gtr rfl rfl) ?_
    refine wl_nil ?_
    refine sq_n ?_
    refine wc_cond rfl (fun hc150 => ?_) (fun hc150 => ?_)
    · replace hx := xif_t hc150 hx
      refine wc_skip ?_
      refine sq_n ?_
      refine wc_block ?_
      refine wc_region ?_
      refine wv rfl (r_move rfl) ?_
      obtain ⟨hg153, hx⟩ := xg_some hx
      refine wv rfl (r_sub rfl rfl hg153) ?_
      refine wv rfl (r_assign rfl) ?_
      refine wl_nil ?_
      refine bk_n ?_
      obtain rfl := Option.some.inj hx
      exact lp_end (m139, k134 - 1) (Nat.lt_succ_self _) ⟨rfl, rfl, rfl, trivial⟩ ⟨hM, hx141⟩
    · replace hx := xif_f hc150 hx
      refine wc_exit ?_
      refine sq_exit ?_
      refine lp1_exit ?_
      obtain rfl := Option.some.inj hx
      obtain rfl := Option.some.inj hx141
      replace hx := hx133
      try dsimp only [Sum.elim_inl, Sum.elim_inr] at hx
      refine bk_here ?_
      refine sq_n ?_
      refine wc_seq ?_
      refine wc_draw [(0, 0), (1, 0), (2, 0), (3, 0), (4, 0), (5, 0), (6, 0), (7, 0), (8, 0), (9, 0)] Try_mixed (by kernel_rfl) rfl (by kernel_rfl) rfl ?_
      refine ov rfl (fun w' h' => r_move rfl) ?_
      refine ov rfl (fun w' h' => r_move rfl) ?_
      refine ov rfl (fun w' h' => r_move rfl) ?_
      refine ov rfl (fun w' h' => r_move rfl) ?_
      obtain ⟨hg161, hx⟩ := xg_some hx
      have hi160 : k134.toNat < r121.length := by omega
      refine ov rfl (fun w' h' => r_ixC Try.underlying22 sz3 rfl rfl ((hM.call h').seeO (.head _)) hg161) ?_
      refine ov rfl (fun w' h' => r_ld Try.underlying3 rfl rfl (Cs.get (i := k134.toNat) (j := 0) ((hM.call h').seeO (.head _)) (fun _ => rfl) hi160 rfl)) ?_
      obtain ⟨hg164, hx⟩ := xg_some hx
      refine ov rfl (fun w' h' => r_sub rfl rfl hg164) ?_
      refine ov rfl (fun w' h' => r_assign rfl) ?_
      refine ov rfl (fun w' h' => r_assign rfl) ?_
      refine ov rfl (fun w' h' => r_assign rfl) ?_
      refine o_nil fun w168 hw169 => ?_
      have hM := hM.call hw169
      refine sq_n ?_
      refine wc_ret ?_
      obtain rfl := Option.some.inj hx
      refine fin_ret [(.int .i64 k134), (.int .i64 (at_ - (el r121 k134.toNat))), (.bool true)] ⟨rfl, rfl, rfl, trivial⟩ ?_
      replace hM := hM.t0
      have hM := hM.fewer rsN
      exact ⟨(), rfl, hM.gives⟩

noncomputable def x_impl_RowMoved (t : List Int) (o : List DPart) (row : Int) : Option (Int × Bool) :=
  Option.bind (x_impl_rowEnds t row) fun r5 => Option.bind (x_impl_Apply o t) fun r18 => Option.bind (bif !r5.2.2 then (some true) else (some (!r18.2))) fun c31 => bif c31 then (some (0, false)) else (Option.bind (x_impl_Shift o r5.1 true) fun r41 => Option.bind (x_impl_RowOf r18.1 r41.1) fun r52 => some (r52.1, true))
theorem ct_impl_RowMoved (w : World) (X S : Bs) (t : List Int) (s_t : Sv) (o : List DPart) (s_o : Sv) (row : Int) (hS : ∀ b, S b → b < w.heap.size ∧ ¬ X b) (a_t_0 : (cSl 1 fI t).rd S w s_t.v) (a_o_0 : (cSl 3 fDPart o).rd S w s_o.v) (oL : Sep [] X w) {r : Int × Bool} (hx : x_impl_RowMoved t o row = some r) :
    Ret Try.prog 23 [s_t.v, s_o.v, (.int .i64 row)] w (fun u w' => ∃ _ : Unit, u = .tuple #[(.int .i64 r.1), (.bool r.2)] ∧ Gives X S w [] [] w') := by
  unfold x_impl_RowMoved at hx
  refine enter Try.func23 rfl Try.ntmps23 (by kernel_rfl) rfl ?_
  have hM := St.enter oL hS
  have hM := hM.addE (r := rV s_t.v (cSl 1 fI t)) a_t_0
  have hM := hM.addE (r := rV s_o.v (cSl 3 fDPart o)) a_o_0
  refine wc_seq ?_
  refine wc_region ?_
  refine wv rfl (r_assign rfl) ?_
  refine wv rfl (r_assign rfl) ?_
  refine wl_nil ?_
  refine sq_n ?_
  refine wc_seq ?_
  refine wc_region ?_
  refine wv rfl (r_move rfl) ?_
  refine wv rfl (r_move rfl) ?_
  obtain ⟨r70, h71, hx⟩ := bind_some' hx
  refine w_call rfl rfl (hM.callV fun X S oL hS hR hO => ct_impl_rowEnds _ X S t s_t row hS (hR _ (.tail _ (.head _))) oL h71) ?_
  rintro _ w72 ⟨rfl, hR73⟩
  have hM := hM.call hR73
  refine wv rfl (r_move rfl) ?_
  refine wv rfl (r_extract rfl rfl) ?_
  refine wv rfl (r_extract rfl rfl) ?_
  refine wv rfl (r_extract rfl rfl) ?_
  refine wv rfl (r_assign rfl) ?_
  refine wv rfl (r_assign rfl) ?_
  refine wv rfl (r_assign rfl) ?_
  refine wl_nil ?_
  refine sq_n ?_
  refine wc_seq ?_
  refine wc_region ?_
  refine wv rfl (r_move rfl) ?_
  refine wv rfl (r_move rfl) ?_
  obtain ⟨r83, h84, hx⟩ := bind_some' hx
  refine w_call rfl rfl (hM.callO (l := []) fun X S oL hS hR hO => ct_impl_Apply _ X S o s_o t s_t hS (hR _ (.head _)) (hR _ (.tail _ (.head _))) oL h84) ?_
  rintro _ w85 ⟨s86, rfl, hM⟩
  replace hM : St ⟨w, X, S⟩ [oC (cSl 1 fI r83.1) s86.v] [rV s_o.v (cSl 3 fDPart o), rV s_t.v (cSl 1 fI t)] _ := hM
  refine wv rfl (r_move rfl) ?_
  refine wv rfl (r_extract rfl rfl) ?_
  refine wv rfl (r_extract rfl rfl) ?_
  refine wv rfl (r_assign rfl) ?_
  refine wv rfl (r_assign rfl) ?_
  refine wl_nil ?_
  refine sq_n ?_
  refine wc_seq ?_
  refine wc_seq ?_
  refine wc_region ?_
  refine wv rfl (r_move rfl) ?_
  refine wv rfl (r_not rfl) ?_
  refine wv rfl (r_move rfl) ?_
  obtain ⟨c96, hx, hx100⟩ := bind_some' hx
  refine wl_mid 3 (fun _ : Unit => [(36, (.bool c96)), (1, s_o.v), (8, (.int .i64 r70.1)), (11, s86.v)]) (fun _ w' => St ⟨w, X, S⟩ [oC (cSl 1 fI r83.1) s86.v] [rV s_o.v (cSl 3 fDPart o), rV s_t.v (cSl 1 fI t)] w') ?_ ?_
  · rcases Bool.eq_false_or_eq_true (!r70.2.2) with hg97 | hg97
    · replace hx := xif_t hg97 hx
      refine gs rfl (isB_no hg97) rfl ?_
      refine gs rfl (isB_no hg97) rfl ?_
      refine wv rfl (p_t rfl hg97 rfl) ?_
      obtain rfl := Option.some.inj hx
      exact mid_nil () ⟨rfl, rfl, rfl, rfl, trivial⟩ hM
    · replace hx := xif_f hg97 hx
      refine gv rfl hg97 rfl (r_move rfl) ?_
      refine gv rfl hg97 rfl (r_not rfl) ?_
      refine wv rfl (p_f rfl hg97 rfl) ?_
      obtain rfl := Option.some.inj hx
      exact mid_nil () ⟨rfl, rfl, rfl, rfl, trivial⟩ hM
  rintro _ w103 hM
  replace hx := hx100
  refine wl_nil ?_
  refine sq_n ?_
  refine wc_cond rfl (fun hc104 => ?_) (fun hc104 => ?_)
  · replace hx := xif_t hc104 hx
    refine wc_seq ?_
    refine wc_region ?_
    refine wv rfl (r_assign rfl) ?_
    refine wv rfl (r_assign rfl) ?_
    refine wl_nil ?_
    refine sq_n ?_
    refine wc_ret ?_
    refine sq_ret ?_
    obtain rfl := Option.some.inj hx
    refine fin_ret [(.int .i64 0), (.bool false)] ⟨rfl, rfl, trivial⟩ ?_
    replace hM := hM.t0
    have hM := hM.fewer rsN
    exact ⟨(), rfl, hM.gives⟩
  · replace hx := xif_f hc104 hx
    refine wc_skip ?_
    refine sq_n ?_
    refine wc_seq ?_
    refine wc_region ?_
    refine wv rfl (r_move rfl) ?_
    refine wv rfl (r_move rfl) ?_
    obtain ⟨r109, h110, hx⟩ := bind_some' hx
    refine w_call rfl rfl (hM.callV fun X S oL hS hR hO => ct_impl_Shift _ X S o s_o r70.1 true hS (hR _ (.head _)) oL h110) ?_
    rintro _ w111 ⟨rfl, hR112⟩
    have hM := hM.call hR112
    refine wv rfl (r_move rfl) ?_
    refine wv rfl (r_extract rfl rfl) ?_
    refine wv rfl (r_extract rfl rfl) ?_
    refine wv rfl (r_assign rfl) ?_
    refine wv rfl (r_assign rfl) ?_
    refine wl_nil ?_
    refine sq_n ?_
    refine wc_seq ?_
    refine wc_region ?_
    refine wv rfl (r_move rfl) ?_
    refine wv rfl (r_move rfl) ?_
    obtain ⟨r120, h121, hx⟩ := bind_some' hx
    refine w_call rfl rfl (hM.callV fun X S oL hS hR hO => ct_impl_RowOf _ X S r83.1 s86 r109.1 hS (seeA hO (.head _)) oL h121) ?_
    rintro _ w122 ⟨rfl, hR123⟩
    have hM := hM.call hR123
    refine wv rfl (r_move rfl) ?_
    refine wv rfl (r_extract rfl rfl) ?_
    refine wv rfl (r_extract rfl rfl) ?_
    refine wv rfl (r_extract rfl rfl) ?_
    refine wv rfl (r_assign rfl) ?_
    refine wv rfl (r_assign rfl) ?_
    refine wv rfl (r_assign rfl) ?_
    refine wl_nil ?_
    refine sq_n ?_
    refine wc_seq ?_
    refine wc_region ?_
    refine wv rfl (r_move rfl) ?_
    refine wv rfl (r_assign rfl) ?_
    refine wv rfl (r_assign rfl) ?_
    refine wl_nil ?_
    refine sq_n ?_
    refine wc_ret ?_
    obtain rfl := Option.some.inj hx
    refine fin_ret [(.int .i64 r120.1), (.bool true)] ⟨rfl, rfl, trivial⟩ ?_
    replace hM := hM.t0
    have hM := hM.fewer rsN
    exact ⟨(), rfl, hM.gives⟩

noncomputable def x_impl_RowSigns (t : List Int) (row : Int) : Option (List Int × Bool) :=
  Option.bind (x_impl_rowEnds t row) fun r5 => bif !r5.2.2 then (some ([], false)) else (xg (0 ≤ r5.1 ∧ r5.1 ≤ r5.2.1 ∧ r5.2.1 ≤ (t.length : Int)) <| Option.bind (x_impl_copyInts ((t.take r5.2.1.toNat).drop r5.1.toNat)) fun r25 => some (r25, true))
theorem ct_impl_RowSigns (w : World) (X S : Bs) (t : List Int) (s_t : Sv) (row : Int) (hS : ∀ b, S b → b < w.heap.size ∧ ¬ X b) (a_t_0 : (cSl 1 fI t).rd S w s_t.v) (oL : Sep [] X w) {r : List Int × Bool} (hx : x_impl_RowSigns t row = some r) :
    Ret Try.prog 19 [s_t.v, (.int .i64 row)] w (fun u w' => ∃ y : Sv, u = .tuple #[y.v, (.bool r.2)] ∧ Gives X S w [oC (cSl 1 fI r.1) y.v] [] w') := by
  unfold x_impl_RowSigns at hx
  refine enter Try.func19 rfl Try.ntmps19 (by kernel_rfl) rfl ?_
  have hM := St.enter oL hS
  have hM := hM.addE (r := rV s_t.v (cSl 1 fI t)) a_t_0
  refine wc_seq ?_
  refine wc_region ?_
  refine wv rfl (r_assign rfl) ?_
  refine wv rfl (r_assign rfl) ?_
  refine wl_nil ?_
  refine sq_n ?_
  refine wc_seq ?_
  refine wc_region ?_
  refine wv rfl (r_move rfl) ?_
  refine wv rfl (r_move rfl) ?_
  obtain ⟨r36, h37, hx⟩ := bind_some' hx
  refine w_call rfl rfl (hM.callV fun X S oL hS hR hO => ct_impl_rowEnds _ X S t s_t row hS (hR _ (.head _)) oL h37) ?_
  rintro _ w38 ⟨rfl, hR39⟩
  have hM := hM.call hR39
  refine wv rfl (r_move rfl) ?_
  refine wv rfl (r_extract rfl rfl) ?_
  refine wv rfl (r_extract rfl rfl) ?_
  refine wv rfl (r_extract rfl rfl) ?_
  refine wv rfl (r_assign rfl) ?_
  refine wv rfl (r_assign rfl) ?_
  refine wv rfl (r_assign rfl) ?_
  refine wl_nil ?_
  refine sq_n ?_
  refine wc_seq ?_
  refine wc_seq ?_
  refine wc_region ?_
  refine wv rfl (r_move rfl) ?_
  refine wv rfl (r_not rfl) ?_
  refine wl_nil ?_
  refine sq_n ?_
  refine wc_cond rfl (fun hc49 => ?_) (fun hc49 => ?_)
  · replace hx := xif_t hc49 hx
    refine wc_seq ?_
    refine wc_region ?_
    refine wv rfl (r_assign rfl) ?_
    refine wv rfl (r_assign rfl) ?_
    refine wl_nil ?_
    refine sq_n ?_
    refine wc_ret ?_
    refine sq_ret ?_
    obtain rfl := Option.some.inj hx
    have hM := hM.nil0 (T := Int) 1 fI
    refine fin_ret [nS.v, (.bool false)] ⟨rfl, rfl, trivial⟩ ?_
    replace hM := hM.t1
    have hM := hM.fewer rsN
    exact ⟨nS, rfl, hM.gives⟩
  · replace hx := xif_f hc49 hx
    refine wc_skip ?_
    refine sq_n ?_
    refine wc_seq ?_
    refine wc_region ?_
    refine wv rfl (r_move rfl) ?_
    refine wv rfl (r_move rfl) ?_
    refine wv rfl (r_move rfl) ?_
    obtain ⟨hg57, hx⟩ := xg_some hx
    have hM := hM.cutR (L := t) (f := fI) (lo := r36.1.toNat) (hi := r36.2.1.toNat) (fun _ => rfl) (by omega) (by omega) (.head _)
    refine wv rfl (r_slc Try.underlying22 sz3 rfl rfl rfl (hM.seeR (.tail _ (.head _))) hg57) ?_
    obtain ⟨r58, h59, hx⟩ := bind_some' hx
    refine w_call rfl rfl (hM.callO (l := []) fun X S oL hS hR hO => ct_impl_copyInts _ X S ((t.take r36.2.1.toNat).drop r36.1.toNat) (s_t.cut 1 r36.1.toNat r36.2.1.toNat) hS (hR _ (.head _)) oL h59) ?_
    rintro _ w60 ⟨s61, rfl, hM⟩
    replace hM : St ⟨w, X, S⟩ [oC (cSl 1 fI r58) s61.v] [rV (s_t.cut 1 r36.1.toNat r36.2.1.toNat).v (cSl 1 fI ((t.take r36.2.1.toNat).drop r36.1.toNat)), rV s_t.v (cSl 1 fI t)] _ := hM
    refine wv rfl (r_assign rfl) ?_
    refine wv rfl (r_assign rfl) ?_
    refine wl_nil ?_
    refine sq_n ?_
    refine wc_ret ?_
    obtain rfl := Option.some.inj hx
    refine fin_ret [s61.v, (.bool true)] ⟨rfl, rfl, trivial⟩ ?_
    replace hM := hM.t1
    have hM := hM.fewer rsN
    exact ⟨s61, rfl, hM.gives⟩

end Go.Proofs.Ytdfjkipdmeomdaa
