/- Walks of functions of this program (printed by a program of ours, by the rules of the layer). No condition. -/
import Derived.Test.YtmcakofnolmhpaaG7
import Derived.Test.YtmcakofnolmhpaaNs
namespace Go.Proofs.Ytmcakofnolmhpaa
open Go.RowKit

noncomputable def x_impl_ApplyAll_b0 (_l : List (List DPart)) (_k21 : Nat) (x79 : List DPart) (out22 : List Int) : Option (Lr (List Int) (Sum (List Int) Unit)) :=
  Option.bind (x_impl_Apply x79 out22) fun r61 => bif !r61.2 then (some (Lr.out (Sum.inr (())))) else (some (Lr.go r61.1))
noncomputable def x_impl_ApplyAll_f0 (l : List (List DPart)) (k21 : Nat) (s80 : List Int) : Option (Lr (List Int) (Sum (List Int) Unit)) := x_impl_ApplyAll_b0 l k21 (el l k21) s80
noncomputable def x_impl_ApplyAll (l : List (List DPart)) (t : List Int) : Option (List Int × Bool) :=
  Option.bind (x_impl_TextOk t) fun r4 => bif !r4 then (some ([], false)) else (Option.bind (x_impl_copyInts t) fun r12 => Option.bind (eachN (x_impl_ApplyAll_f0 l) (fun (s80 : List Int) => (Sum.inl s80 : Sum (List Int) Unit)) l.length 0 r12) fun (y81 : Sum (List Int) Unit) => Sum.elim (fun y82 => some (y82, true)) (fun _y83 => some ([], false)) y81)
theorem ct_impl_ApplyAll (w : World) (X S : Bs) (l : List (List DPart)) (s_l : Sv) (t : List Int) (s_t : Sv) (hS : ∀ b, S b → b < w.heap.size ∧ ¬ X b) (a_l_0 : (cSl 1 fLDPart l).rd S w s_l.v) (a_t_0 : (cSl 1 fI t).rd S w s_t.v) (oL : Sep [] X w) {r : List Int × Bool} (hx : x_impl_ApplyAll l t = some r) :
    Ret Try.prog 56 [s_l.v, s_t.v] w (fun u w' => ∃ y : Sv, u = .tuple #[y.v, (.bool r.2)] ∧ Gives X S w [oC (cSl 1 fI r.1) y.v] [] w') := by
  unfold x_impl_ApplyAll at hx
  refine enter Try.func56 rfl Try.ntmps56 (by kernel_rfl) rfl ?_
  have hM := St.enter oL hS
  have hM := hM.addE (r := rV s_l.v (cSl 1 fLDPart l)) a_l_0
  have hM := hM.addE (r := rV s_t.v (cSl 1 fI t)) a_t_0
  refine wc_seq ?_
  refine wc_region ?_
  refine wv rfl (r_assign rfl) ?_
  refine wv rfl (r_assign rfl) ?_
  refine wl_nil ?_
  refine sq_n ?_
  refine wc_seq ?_
  refine wc_seq ?_
  refine wc_region ?_
  refine wv rfl (r_move rfl) ?_
  obtain ⟨r92, h93, hx⟩ := bind_some' hx
  refine w_call rfl rfl (hM.callV fun X S oL hS hR hO => ct_impl_TextOk _ X S t s_t hS (hR _ (.head _)) oL h93) ?_
  rintro _ w94 ⟨rfl, hR95⟩
  have hM := hM.call hR95
  refine wv rfl (r_not rfl) ?_
  refine wl_nil ?_
  refine sq_n ?_
  refine wc_cond rfl (fun hc97 => ?_) (fun hc97 => ?_)
  · replace hx := xif_t hc97 hx
    refine wc_seq ?_
    refine wc_region ?_
    refine wv rfl (r_assign rfl) ?_
    refine wv rfl (r_assign rfl) ?_
    refine wl_nil ?_
    refine sq_n ?_
    refine wc_ret ?_
    refine sq_ret ?_
    obtain rfl := Option.some.inj hx
    have hM := hM.nil0 (T := Int) 1 fI
    refine fin_ret [nS.v, (.bool false)] ⟨rfl, rfl, trivial⟩ ?_
    replace hM := hM.t1
    have hM := hM.fewer rsN
    exact ⟨nS, rfl, hM.gives⟩
  · replace hx := xif_f hc97 hx
    refine wc_skip ?_
    refine sq_n ?_
    refine wc_seq ?_
    refine wc_region ?_
    refine wv rfl (r_move rfl) ?_
    obtain ⟨r102, h103, hx⟩ := bind_some' hx
    refine w_call rfl rfl (hM.callO (l := []) fun X S oL hS hR hO => ct_impl_copyInts _ X S t s_t hS (hR _ (.head _)) oL h103) ?_
    rintro _ w104 ⟨s105, rfl, hM⟩
    replace hM : St ⟨w, X, S⟩ [oC (cSl 1 fI r102) s105.v] [rV s_t.v (cSl 1 fI t), rV s_l.v (cSl 1 fLDPart l)] _ := hM
    refine wv rfl (r_assign rfl) ?_
    refine wl_nil ?_
    refine sq_n ?_
    refine wc_seq ?_
    refine wc_seq ?_
    refine wc_region ?_
    refine wv rfl (r_move rfl) ?_
    refine wv rfl (r_lenC Try.underlying84 rfl (hM.seeR (.tail _ (.head _)))) ?_
    refine wv rfl (r_move rfl) ?_
    refine wl_nil ?_
    refine sq_n ?_
    refine wc_block ?_
    obtain ⟨y111, hx, hx112⟩ := bind_some' hx
    have hM := hM.fewer (rsC (.tail _ (.head _)) rsN)
    replace hM : St ⟨w, X, S⟩ [oC (cSl 1 fI r102) s105.v] [rV s_l.v (cSl 1 fLDPart l)] _ := hM
    have hl119 := Cs.le (hM.seeR (.head _))
    refine wc_loop (un fun (m116 : Nat) => un fun (k117 : Nat) => un fun (out113 : List Int) => fun (s115 : Sv) => [(6, s115.v), (16, s_l.v), (17, (.int .i64 (l.length : Int))), (18, (.int .i64 (k117 : Int)))]) (un fun (m116 : Nat) => un fun (k117 : Nat) => un fun (out113 : List Int) => fun (s115 : Sv) w' => St ⟨w, X, S⟩ [oC (cSl 1 fI out113) s115.v] [rV s_l.v (cSl 1 fLDPart l)] w' ∧ eachN _ _ m116 k117 out113 = some y111 ∧ k117 + m116 = l.length) (fun p => p.1) (l.length, 0, r102, s105) ⟨rfl, rfl, rfl, rfl, trivial⟩ ⟨hM, hx, Nat.zero_add _⟩ ?_
    rintro ⟨m116, k117, out113, s115⟩ w120 ⟨hM, hx, hk118⟩
    refine wc_seq ?_
    refine wc_region ?_
    refine wv rfl (r_lss rfl rfl) ?_
    refine wl_nil ?_
    refine sq_n ?_
    refine wc_seq ?_
    refine wc_cond rfl (fun hc122 => ?_) (fun hc122 => ?_)
    · replace hc122 := of_decide_eq_true hc122
      obtain ⟨m123, z124, rfl, hk118, hx, hx125⟩ := eachN_step hx hk118 hc122
      unfold x_impl_ApplyAll_f0 x_impl_ApplyAll_b0 at hx
      try dsimp only at hx
      refine wc_skip ?_
      refine sq_n ?_
      refine wc_seq ?_
      refine wc_block ?_
      refine wc_seq ?_
      refine wc_region ?_
      have hi127 : k117 < l.length := by omega
      refine wv rfl (r_ixC Try.underlying84 sz42 rfl rfl (hM.seeR (.head _)) ⟨by omega, hc122⟩) ?_
      obtain ⟨s129, hM, hc130⟩ := hM.leaf (i := k117) (j := 0) (.head _) (fun _ => rfl) hi127 rfl
      refine wv rfl (r_ld Try.underlying42 rfl rfl (hc130 _ (Rel.refl _))) ?_
      refine wv rfl (r_assign rfl) ?_
      refine wl_nil ?_
      refine sq_n ?_
      refine wc_seq ?_
      refine wc_region ?_
      refine wv rfl (r_move rfl) ?_
      refine wv rfl (r_move rfl) ?_
      obtain ⟨r134, h135, hx⟩ := bind_some' hx
      refine w_call rfl rfl (hM.callO (l := []) fun X S oL hS hR hO => ct_impl_Apply _ X S (el l k117) s129 out113 s115 hS (hR _ (.head _)) (seeA hO (.head _)) oL h135) ?_
      rintro _ w136 ⟨s137, rfl, hM⟩
      replace hM : St ⟨w, X, S⟩ [oC (cSl 1 fI r134.1) s137.v, oC (cSl 1 fI out113) s115.v] [rV s129.v (cSl 3 fDPart (el l k117)), rV s_l.v (cSl 1 fLDPart l)] _ := hM
      refine wv rfl (r_move rfl) ?_
      refine wv rfl (r_extract rfl rfl) ?_
      refine wv rfl (r_extract rfl rfl) ?_
      refine wv rfl (r_assign rfl) ?_
      refine wv rfl (r_assign rfl) ?_
      refine wl_nil ?_
      refine sq_n ?_
      refine wc_seq ?_
      refine wc_seq ?_
      refine wc_region ?_
      refine wv rfl (r_move rfl) ?_
      refine wv rfl (r_not rfl) ?_
      refine wl_nil ?_
      refine sq_n ?_
      refine wc_cond rfl (fun hc146 => ?_) (fun hc146 => ?_)
      · replace hx := xif_t hc146 hx
        refine wc_seq ?_
        refine wc_region ?_
        refine wv rfl (r_assign rfl) ?_
        refine wv rfl (r_assign rfl) ?_
        refine wl_nil ?_
        refine sq_n ?_
        refine wc_ret ?_
        refine sq_ret ?_
        refine bk_ret ?_
        refine sq_ret ?_
        refine lp1_ret ?_
        obtain rfl := Option.some.inj hx
        obtain rfl := Option.some.inj hx125
        replace hx := hx112
        try dsimp only [Sum.elim_inl, Sum.elim_inr] at hx
        refine bk_ret ?_
        refine sq_ret ?_
        obtain rfl := Option.some.inj hx
        have hM := hM.nil0 (T := Int) 1 fI
        refine fin_ret [nS.v, (.bool false)] ⟨rfl, rfl, trivial⟩ ?_
        replace hM := hM.t1
        have hM := hM.fewer rsN
        exact ⟨nS, rfl, hM.gives⟩
      · replace hx := xif_f hc146 hx
        refine wc_skip ?_
        refine sq_n ?_
        refine wc_region ?_
        refine wv rfl (r_move rfl) ?_
        refine wv rfl (r_assign rfl) ?_
        refine wl_nil ?_
        refine bk_n ?_
        refine sq_n ?_
        refine wc_region ?_
        refine wv rfl (r_add rfl rfl ⟨by omega, by omega⟩) ?_
        refine wv rfl (r_move rfl) ?_
        refine wl_nil ?_
        obtain rfl := Option.some.inj hx
        replace hM := hM.t1
        have hM := hM.fewer (rsC (.tail _ (.head _)) rsN)
        replace hM : St ⟨w, X, S⟩ [oC (cSl 1 fI r134.1) s137.v] [rV s_l.v (cSl 1 fLDPart l)] _ := hM
        exact lp_end (m123, k117 + 1, r134.1, s137) (Nat.lt_succ_self _) ⟨rfl, rfl, rfl, rfl, trivial⟩ ⟨hM, hx125, hk118⟩
    · replace hc122 := of_decide_eq_false hc122
      obtain rfl := eachN_end hx hk118 hc122
      refine wc_exit ?_
      refine sq_exit ?_
      refine lp1_exit ?_
      replace hx := hx112
      try dsimp only [Sum.elim_inl, Sum.elim_inr] at hx
      refine bk_here ?_
      refine sq_n ?_
      refine wc_seq ?_
      refine wc_region ?_
      refine wv rfl (r_move rfl) ?_
      refine wv rfl (r_assign rfl) ?_
      refine wv rfl (r_assign rfl) ?_
      refine wl_nil ?_
      refine sq_n ?_
      refine wc_ret ?_
      obtain rfl := Option.some.inj hx
      refine fin_ret [s115.v, (.bool true)] ⟨rfl, rfl, trivial⟩ ?_
      replace hM := hM.t1
      have hM := hM.fewer rsN
      exact ⟨s115, rfl, hM.gives⟩

noncomputable def x_impl_EntryOk (e : DEntry) : Option Bool :=
  Option.bind (x_impl_within e.client 1 8) fun r8 => Option.bind (bif r8 then (Option.bind (x_impl_within e.seq 1 1000000000) fun r23 => some r23) else (some false)) fun c13 => Option.bind (bif c13 then (Option.bind (x_impl_IsNorm e.o) fun r38 => some r38) else (some false)) fun c28 => some c28
theorem ct_impl_EntryOk (w : World) (X S : Bs) (e : DEntry) (s_e_2 : Sv) (hS : ∀ b, S b → b < w.heap.size ∧ ¬ X b) (a_e_2 : (cSl 3 fDPart e.o).rd S w s_e_2.v) (oL : Sep [] X w) {r : Bool} (hx : x_impl_EntryOk e = some r) :
    Ret Try.prog 55 [(.agg #[(.int .i64 e.client), (.int .i64 e.seq), s_e_2.v])] w (fun u w' => ∃ _ : Unit, u = (.bool r) ∧ Gives X S w [] [] w') := by
  unfold x_impl_EntryOk at hx
  refine enter Try.func55 rfl Try.ntmps55 (by kernel_rfl) rfl ?_
  have hM := St.enter oL hS
  have hM := hM.addE (r := rV s_e_2.v (cSl 3 fDPart e.o)) a_e_2
  refine wc_seq ?_
  refine wc_region ?_
  refine w_ex rfl (x_box rfl hM ?_); intro b44 w43 hR45 hM
  replace hM : St ⟨w, X, S⟩ [oBox b44 #[(.int .i64 e.client), (.int .i64 e.seq), s_e_2.v] 44] [rV s_e_2.v (cSl 3 fDPart e.o)] _ := hM
  refine wv rfl (r_assign rfl) ?_
  refine wl_nil ?_
  refine sq_n ?_
  refine wc_seq ?_
  refine wc_region ?_
  refine wv rfl (r_fld Try.underlying44 rfl rfl sz3 rfl) ?_
  refine wv rfl (r_ldB Try.underlying3 rfl rfl hM (.head _) rfl) ?_
  obtain ⟨r50, h51, hx⟩ := bind_some' hx
  refine w_call rfl rfl (hM.callV fun X S oL hS hR hO => ct_impl_within _ X S e.client (1 : Int) (8 : Int) hS  oL h51) ?_
  rintro _ w52 ⟨rfl, hR53⟩
  have hM := hM.call hR53
  refine wv rfl (r_move rfl) ?_
  obtain ⟨c55, hx, hx63⟩ := bind_some' hx
  refine wl_mid 4 (fun _ : Unit => [(10, (.bool c55)), (1, (.pointer (some ⟨b44, 0, none⟩)))]) (fun _ w' => St ⟨w, X, S⟩ [oBox b44 #[(.int .i64 e.client), (.int .i64 e.seq), s_e_2.v] 44] [rV s_e_2.v (cSl 3 fDPart e.o)] w') ?_ ?_
  · rcases Bool.eq_false_or_eq_true r50 with hg56 | hg56
    · replace hx := xif_t hg56 hx
      refine gv rfl hg56 rfl (r_fld Try.underlying44 rfl rfl sz3 rfl) ?_
      refine gv rfl hg56 rfl (r_ldB Try.underlying3 rfl rfl hM (.head _) rfl) ?_
      obtain ⟨r66, h67, hx⟩ := bind_some' hx
      refine gc rfl hg56 rfl rfl (hM.callV fun X S oL hS hR hO => ct_impl_within _ X S e.seq (1 : Int) (1000000000 : Int) hS  oL h67) ?_
      rintro _ w68 ⟨rfl, hR69⟩
      have hM := hM.call hR69
      refine wv rfl (p_t rfl hg56 rfl) ?_
      obtain rfl := Option.some.inj hx
      exact mid_nil () ⟨rfl, rfl, trivial⟩ hM
    · replace hx := xif_f hg56 hx
      refine gs rfl (isB_no hg56) rfl ?_
      refine gs rfl (isB_no hg56) rfl ?_
      refine gs rfl (isB_no hg56) rfl ?_
      refine wv rfl (p_f rfl hg56 rfl) ?_
      obtain rfl := Option.some.inj hx
      exact mid_nil () ⟨rfl, rfl, trivial⟩ hM
  rintro _ w70 hM
  replace hx := hx63
  refine wv rfl (r_move rfl) ?_
  obtain ⟨c72, hx, hx80⟩ := bind_some' hx
  refine wl_mid 4 (fun _ : Unit => [(15, (.bool c72))]) (fun _ w' => St ⟨w, X, S⟩ [oBox b44 #[(.int .i64 e.client), (.int .i64 e.seq), s_e_2.v] 44] [rV s_e_2.v (cSl 3 fDPart e.o)] w') ?_ ?_
  · rcases Bool.eq_false_or_eq_true c55 with hg73 | hg73
    · replace hx := xif_t hg73 hx
      refine gv rfl hg73 rfl (r_fld Try.underlying44 rfl rfl sz42 rfl) ?_
      refine gv rfl hg73 rfl (r_ldB Try.underlying42 rfl rfl hM (.head _) rfl) ?_
      obtain ⟨r83, h84, hx⟩ := bind_some' hx
      refine gc rfl hg73 rfl rfl (hM.callV fun X S oL hS hR hO => ct_impl_IsNorm _ X S e.o s_e_2 hS (hR _ (.head _)) oL h84) ?_
      rintro _ w85 ⟨rfl, hR86⟩
      have hM := hM.call hR86
      refine wv rfl (p_t rfl hg73 rfl) ?_
      obtain rfl := Option.some.inj hx
      exact mid_nil () ⟨rfl, trivial⟩ hM
    · replace hx := xif_f hg73 hx
      refine gs rfl (isB_no hg73) rfl ?_
      refine gs rfl (isB_no hg73) rfl ?_
      refine gs rfl (isB_no hg73) rfl ?_
      refine wv rfl (p_f rfl hg73 rfl) ?_
      obtain rfl := Option.some.inj hx
      exact mid_nil () ⟨rfl, trivial⟩ hM
  rintro _ w87 hM
  replace hx := hx80
  refine wv rfl (r_assign rfl) ?_
  refine wl_nil ?_
  refine sq_n ?_
  refine wc_ret ?_
  obtain rfl := Option.some.inj hx
  refine fin_ret [(.bool c72)] ⟨rfl, trivial⟩ ?_
  replace hM := hM.t0
  have hM := hM.fewer rsN
  exact ⟨(), rfl, hM.gives⟩

noncomputable def x_spec_EntryOk (e : DEntry) : Option Bool :=
  Option.bind (x_spec_l01In e.client 1 8) fun r8 => Option.bind (bif r8 then (Option.bind (x_spec_l01In e.seq 1 1000000000) fun r23 => some r23) else (some false)) fun c13 => Option.bind (bif c13 then (Option.bind (x_spec_IsNorm e.o) fun r38 => some r38) else (some false)) fun c28 => some c28
theorem ct_spec_EntryOk (w : World) (X S : Bs) (e : DEntry) (s_e_2 : Sv) (hS : ∀ b, S b → b < w.heap.size ∧ ¬ X b) (a_e_2 : (cSl 3 fDPart e.o).rd S w s_e_2.v) (oL : Sep [] X w) {r : Bool} (hx : x_spec_EntryOk e = some r) :
    Ret Try.prog 47 [(.agg #[(.int .i64 e.client), (.int .i64 e.seq), s_e_2.v])] w (fun u w' => ∃ _ : Unit, u = (.bool r) ∧ Gives X S w [] [] w') := by
  unfold x_spec_EntryOk at hx
  refine enter Try.func47 rfl Try.ntmps47 (by kernel_rfl) rfl ?_
  have hM := St.enter oL hS
  have hM := hM.addE (r := rV s_e_2.v (cSl 3 fDPart e.o)) a_e_2
  refine wc_seq ?_
  refine wc_region ?_
  refine w_ex rfl (x_box rfl hM ?_); intro b44 w43 hR45 hM
  replace hM : St ⟨w, X, S⟩ [oBox b44 #[(.int .i64 e.client), (.int .i64 e.seq), s_e_2.v] 44] [rV s_e_2.v (cSl 3 fDPart e.o)] _ := hM
  refine wv rfl (r_assign rfl) ?_
  refine wl_nil ?_
  refine sq_n ?_
  refine wc_seq ?_
  refine wc_region ?_
  refine wv rfl (r_fld Try.underlying44 rfl rfl sz3 rfl) ?_
  refine wv rfl (r_ldB Try.underlying3 rfl rfl hM (.head _) rfl) ?_
  obtain ⟨r50, h51, hx⟩ := bind_some' hx
  refine w_call rfl rfl (hM.callV fun X S oL hS hR hO => ct_spec_l01In _ X S e.client (1 : Int) (8 : Int) hS  oL h51) ?_
  rintro _ w52 ⟨rfl, hR53⟩
  have hM := hM.call hR53
  refine wv rfl (r_move rfl) ?_
  obtain ⟨c55, hx, hx63⟩ := bind_some' hx
  refine wl_mid 4 (fun _ : Unit => [(10, (.bool c55)), (1, (.pointer (some ⟨b44, 0, none⟩)))]) (fun _ w' => St ⟨w, X, S⟩ [oBox b44 #[(.int .i64 e.client), (.int .i64 e.seq), s_e_2.v] 44] [rV s_e_2.v (cSl 3 fDPart e.o)] w') ?_ ?_
  · rcases Bool.eq_false_or_eq_true r50 with hg56 | hg56
    · replace hx := xif_t hg56 hx
      refine gv rfl hg56 rfl (r_fld Try.underlying44 rfl rfl sz3 rfl) ?_
      refine gv rfl hg56 rfl (r_ldB Try.underlying3 rfl rfl hM (.head _) rfl) ?_
      obtain ⟨r66, h67, hx⟩ := bind_some' hx
      refine gc rfl hg56 rfl rfl (hM.callV fun X S oL hS hR hO => ct_spec_l01In _ X S e.seq (1 : Int) (1000000000 : Int) hS  oL h67) ?_
      rintro _ w68 ⟨rfl, hR69⟩
      have hM := hM.call hR69
      refine wv rfl (p_t rfl hg56 rfl) ?_
      obtain rfl := Option.some.inj hx
      exact mid_nil () ⟨rfl, rfl, trivial⟩ hM
    · replace hx := xif_f hg56 hx
      refine gs rfl (isB_no hg56) rfl ?_
      refine gs rfl (isB_no hg56) rfl ?_
      refine gs rfl (isB_no hg56) rfl ?_
      refine wv rfl (p_f rfl hg56 rfl) ?_
      obtain rfl := Option.some.inj hx
      exact mid_nil () ⟨rfl, rfl, trivial⟩ hM
  rintro _ w70 hM
  replace hx := hx63
  refine wv rfl (r_move rfl) ?_
  obtain ⟨c72, hx, hx80⟩ := bind_some' hx
  refine wl_mid 4 (fun _ : Unit => [(15, (.bool c72))]) (fun _ w' => St ⟨w, X, S⟩ [oBox b44 #[(.int .i64 e.client), (.int .i64 e.seq), s_e_2.v] 44] [rV s_e_2.v (cSl 3 fDPart e.o)] w') ?_ ?_
  · rcases Bool.eq_false_or_eq_true c55 with hg73 | hg73
    · replace hx := xif_t hg73 hx
      refine gv rfl hg73 rfl (r_fld Try.underlying44 rfl rfl sz42 rfl) ?_
      refine gv rfl hg73 rfl (r_ldB Try.underlying42 rfl rfl hM (.head _) rfl) ?_
      obtain ⟨r83, h84, hx⟩ := bind_some' hx
      refine gc rfl hg73 rfl rfl (hM.callV fun X S oL hS hR hO => ct_spec_IsNorm _ X S e.o s_e_2 hS (hR _ (.head _)) oL h84) ?_
      rintro _ w85 ⟨rfl, hR86⟩
      have hM := hM.call hR86
      refine wv rfl (p_t rfl hg73 rfl) ?_
      obtain rfl := Option.some.inj hx
      exact mid_nil () ⟨rfl, trivial⟩ hM
    · replace hx := xif_f hg73 hx
      refine gs rfl (isB_no hg73) rfl ?_
      refine gs rfl (isB_no hg73) rfl ?_
      refine gs rfl (isB_no hg73) rfl ?_
      refine wv rfl (p_f rfl hg73 rfl) ?_
      obtain rfl := Option.some.inj hx
      exact mid_nil () ⟨rfl, trivial⟩ hM
  rintro _ w87 hM
  replace hx := hx80
  refine wv rfl (r_assign rfl) ?_
  refine wl_nil ?_
  refine sq_n ?_
  refine wc_ret ?_
  obtain rfl := Option.some.inj hx
  refine fin_ret [(.bool c72)] ⟨rfl, trivial⟩ ?_
  replace hM := hM.t0
  have hM := hM.fewer rsN
  exact ⟨(), rfl, hM.gives⟩

noncomputable def x_impl_opsOf_b0 (_list : List DEntry) (_k35 : Nat) (x93 : DEntry) (out36 : List (List DPart)) : Option (Lr (List (List DPart)) (List (List DPart))) :=
  Option.bind (x_impl_copyOp (x93.o)) fun r81 => xg (out36.length < 1099511627776) <| some (Lr.go (out36 ++ [r81]))
noncomputable def x_impl_opsOf_f0 (list : List DEntry) (k35 : Nat) (s94 : List (List DPart)) : Option (Lr (List (List DPart)) (List (List DPart))) := x_impl_opsOf_b0 list k35 (el list k35) s94
noncomputable def x_impl_opsOf (list : List DEntry) : Option (List (List DPart)) :=
  Option.bind (eachN (x_impl_opsOf_f0 list) (fun (s94 : List (List DPart)) => (s94 : List (List DPart))) list.length 0 []) fun (y95 : List (List DPart)) => some y95
theorem ct_impl_opsOf (w : World) (X S : Bs) (list : List DEntry) (s_list : Sv) (hS : ∀ b, S b → b < w.heap.size ∧ ¬ X b) (a_list_0 : (cSl 3 fDEntry list).rd S w s_list.v) (oL : Sep [] X w) {r : List (List DPart)} (hx : x_impl_opsOf list = some r) :
    Ret Try.prog 57 [s_list.v] w (fun u w' => ∃ y : Sv, u = y.v ∧ Gives X S w [oC (cSl 1 fLDPart r) y.v] [] w') := by
  unfold x_impl_opsOf at hx
  refine enter Try.func57 rfl Try.ntmps57 (by kernel_rfl) rfl ?_
  have hM := St.enter oL hS
  have hM := hM.addE (r := rV s_list.v (cSl 3 fDEntry list)) a_list_0
  refine wc_seq ?_
  refine wc_region ?_
  refine wv rfl (r_assign rfl) ?_
  refine wl_nil ?_
  refine sq_n ?_
  refine wc_seq ?_
  refine wc_region ?_
  refine wv rfl (r_assign rfl) ?_
  refine wl_nil ?_
  refine sq_n ?_
  refine wc_seq ?_
  refine wc_seq ?_
  refine wc_region ?_
  refine wv rfl (r_move rfl) ?_
  refine wv rfl (r_lenC Try.underlying24 rfl (hM.seeR (.head _))) ?_
  refine wv rfl (r_move rfl) ?_
  refine wl_nil ?_
  refine sq_n ?_
  refine wc_block ?_
  obtain ⟨y105, hx, hx106⟩ := bind_some' hx
  have hM := hM.nil0 (T := List DPart) 1 fLDPart
  have hl114 := Cs.le (hM.seeR (.head _))
  refine wc_loop (un fun (m111 : Nat) => un fun (k112 : Nat) => un fun (out108 : List (List DPart)) => fun (s110 : Sv) => [(3, s110.v), (6, s_list.v), (7, (.int .i64 (list.length : Int))), (8, (.int .i64 (k112 : Int)))]) (un fun (m111 : Nat) => un fun (k112 : Nat) => un fun (out108 : List (List DPart)) => fun (s110 : Sv) w' => St ⟨w, X, S⟩ [oC (cSl 1 fLDPart out108) s110.v] [rV s_list.v (cSl 3 fDEntry list)] w' ∧ eachN _ _ m111 k112 out108 = some y105 ∧ k112 + m111 = list.length) (fun p => p.1) (list.length, 0, [], nS) ⟨rfl, rfl, rfl, rfl, trivial⟩ ⟨hM, hx, Nat.zero_add _⟩ ?_
  rintro ⟨m111, k112, out108, s110⟩ w115 ⟨hM, hx, hk113⟩
  refine wc_seq ?_
  refine wc_region ?_
  refine wv rfl (r_lss rfl rfl) ?_
  refine wl_nil ?_
  refine sq_n ?_
  refine wc_seq ?_
  refine wc_cond rfl (fun hc117 => ?_) (fun hc117 => ?_)
  · replace hc117 := of_decide_eq_true hc117
    obtain ⟨m118, z119, rfl, hk113, hx, hx120⟩ := eachN_step hx hk113 hc117
    unfold x_impl_opsOf_f0 x_impl_opsOf_b0 at hx
    try dsimp only at hx
    refine wc_skip ?_
    refine sq_n ?_
    refine wc_seq ?_
    refine wc_block ?_
    refine wc_seq ?_
    refine wc_region ?_
    have hi122 : k112 < list.length := by omega
    refine wv rfl (r_ixC Try.underlying24 sz44 rfl rfl (hM.seeR (.head _)) ⟨by omega, hc117⟩) ?_
    obtain ⟨s124, hM, hc125⟩ := hM.leaf (i := k112) (j := 2) (.head _) (fun _ => rfl) hi122 rfl
    refine wv rfl (r_ldC (o := k112 * 3) Try.underlying44 sz44 rfl (us := [(.int .i64 ((el list k112).client)), (.int .i64 ((el list k112).seq)), s124.v]) rfl (hM.seeR (.tail _ (.head _))) hi122 ⟨(Cs.get (i := k112) (j := 0) (hM.seeR (.tail _ (.head _))) (fun _ => rfl) hi122 rfl), (Cs.get (i := k112) (j := 1) (hM.seeR (.tail _ (.head _))) (fun _ => rfl) hi122 rfl), (hc125 _ (Rel.refl _)), trivial⟩) ?_
    refine w_ex rfl (x_alloc sz44 hM ?_); intro b127 w126 hR128 hM
    replace hM : St ⟨w, X, S⟩ [oBox b127 #[(.int .i64 0), (.int .i64 0), (.slice none 0 0)] 44, oC (cSl 1 fLDPart out108) s110.v] [rV s124.v (cSl 3 fDPart ((el list k112).o)), rV s_list.v (cSl 3 fDEntry list)] _ := hM
    refine w_exu (x_stB #[(.int .i64 ((el list k112).client)), (.int .i64 ((el list k112).seq)), s124.v] sz44 rfl rfl rfl rfl rfl rfl hM ?_); intro w130 hM
    refine wl_nil ?_
    refine sq_n ?_
    refine wc_region ?_
    refine wv rfl (r_move rfl) ?_
    refine wv rfl (r_fld Try.underlying44 rfl rfl sz42 rfl) ?_
    refine wv rfl (r_ldB Try.underlying42 rfl rfl hM (.head _) rfl) ?_
    obtain ⟨r135, h136, hx⟩ := bind_some' hx
    refine w_call rfl rfl (hM.callO (l := []) fun X S oL hS hR hO => ct_impl_copyOp _ X S ((el list k112).o) s124 hS (hR _ (.head _)) oL h136) ?_
    rintro _ w137 ⟨s138, rfl, hM⟩
    replace hM : St ⟨w, X, S⟩ [oC (cSl 3 fDPart r135) s138.v, oBox b127 #[(.int .i64 ((el list k112).client)), (.int .i64 ((el list k112).seq)), s124.v] 44, oC (cSl 1 fLDPart out108) s110.v] [rV s124.v (cSl 3 fDPart ((el list k112).o)), rV s_list.v (cSl 3 fDEntry list)] _ := hM
    replace hM := hM.p2
    obtain ⟨hg143, hx⟩ := xg_some hx
    refine w_push (f := fLDPart) r135 rfl rfl Try.underlying84 sz42 rfl rfl rfl rfl (fun _ => rfl) hM (fun _ => zO zN) rfl hg143 rfl ?_; intro u141 s142 w140 hM
    refine wv rfl (r_assign rfl) ?_
    refine wl_nil ?_
    refine bk_n ?_
    refine sq_n ?_
    refine wc_region ?_
    refine wv rfl (r_add rfl rfl ⟨by omega, by omega⟩) ?_
    refine wv rfl (r_move rfl) ?_
    refine wl_nil ?_
    obtain rfl := Option.some.inj hx
    replace hM := hM.t1
    have hM := hM.fewer (rsC (.tail _ (.head _)) rsN)
    replace hM : St ⟨w, X, S⟩ [oC (cSl 1 fLDPart (out108 ++ [r135])) s142.v] [rV s_list.v (cSl 3 fDEntry list)] _ := hM
    exact lp_end (m118, k112 + 1, out108 ++ [r135], s142) (Nat.lt_succ_self _) ⟨rfl, rfl, rfl, rfl, trivial⟩ ⟨hM, hx120, hk113⟩
  · replace hc117 := of_decide_eq_false hc117
    obtain rfl := eachN_end hx hk113 hc117
    refine wc_exit ?_
    refine sq_exit ?_
    refine lp1_exit ?_
    replace hx := hx106
    try dsimp only [Sum.elim_inl, Sum.elim_inr] at hx
    refine bk_here ?_
    refine sq_n ?_
    refine wc_seq ?_
    refine wc_region ?_
    refine wv rfl (r_move rfl) ?_
    refine wv rfl (r_assign rfl) ?_
    refine wl_nil ?_
    refine sq_n ?_
    refine wc_ret ?_
    obtain rfl := Option.some.inj hx
    refine fin_ret [s110.v] ⟨rfl, trivial⟩ ?_
    replace hM := hM.t1
    have hM := hM.fewer rsN
    exact ⟨s110, rfl, hM.gives⟩

end Go.Proofs.Ytmcakofnolmhpaa
