/- Walks of functions of this program (printed by a program of ours, by the rules of the layer). No condition. -/
import Derived.Test.YthfkcpdechjmnaaGW
import Derived.Test.YthfkcpdechjmnaaGM
import Derived.Test.YthfkcpdechjmnaaNr
namespace Go.Proofs.Ythfkcpdechjmnaa
open Go.RowKit

noncomputable def x_impl_ApplyAll_b0 (_l : List (List DPart)) (_k21 : Nat) (x79 : List DPart) (out22 : List Int) : Option (Lr (List Int) (Sum (List Int) Unit)) :=
  Option.bind (x_impl_Apply x79 out22) fun r61 => bif !r61.2 then (some (Lr.out (Sum.inr (())))) else (some (Lr.go r61.1))
noncomputable def x_impl_ApplyAll_f0 (l : List (List DPart)) (k21 : Nat) (s80 : List Int) : Option (Lr (List Int) (Sum (List Int) Unit)) := x_impl_ApplyAll_b0 l k21 (el l k21) s80
noncomputable def x_impl_ApplyAll (l : List (List DPart)) (t : List Int) : Option (List Int × Bool) :=
  Option.bind (x_impl_TextOk t) fun r4 => bif !r4 then (some ([], false)) else (Option.bind (x_impl_copyInts t) fun r12 => Option.bind (eachN (x_impl_ApplyAll_f0 l) (fun (s80 : List Int) => (Sum.inl s80 : Sum (List Int) Unit)) l.length 0 r12) fun (y81 : Sum (List Int) Unit) => Sum.elim (fun y82 => some (y82, true)) (fun _y83 => some ([], false)) y81)
theorem ct_impl_ApplyAll (w : World) (X S : Bs) (l : List (List DPart)) (s_l : Sv) (t : List Int) (s_t : Sv) (hS : ∀ b, S b → b < w.heap.size ∧ ¬ X b) (a_l_0 : (cSl 1 fLDPart l).rd S w s_l.v) (a_t_0 : (cSl 1 fI t).rd S w s_t.v) (oL : Sep [] X w) {r : List Int × Bool} (hx : x_impl_ApplyAll l t = some r) :
    Ret Try.prog 30 [s_l.v, s_t.v] w (fun u w' => ∃ y : Sv, u = .tuple #[y.v, (.bool r.2)] ∧ Gives X S w [oC (cSl 1 fI r.1) y.v] [] w') := by
  unfold x_impl_ApplyAll at hx
  refine enter Try.func30 rfl Try.ntmps30 (by kernel_rfl) rfl ?_
  have hM := St.enter oL hS
  have hM := hM.addE (r := rV s_l.v (cSl 1 fLDPart l)) a_l_0
  have hM := hM.addE (r := rV s_t.v (cSl 1 fI t)) a_t_0
  refine wc_seq ?_
  refine wc_region ?_
  refine wv rfl (r_assign rfl) ?_
  refine wv rfl (r_assign rfl) ?_
  refine wl_nil ?_
  refine sq_n ?_
  refine wc_seq ?_
  refine wc_seq ?_
  refine wc_region ?_
  refine wv rfl (r_move rfl) ?_
  obtain ⟨r92, h93, hx⟩ := bind_some' hx
  refine w_call rfl rfl (hM.callV fun X S oL hS hR hO => ct_impl_TextOk _ X S t s_t hS (hR _ (.head _)) oL h93) ?_
  rintro _ w94 ⟨rfl, hR95⟩
  have hM := hM.call hR95
  refine wv rfl (r_not rfl) ?_
  refine wl_nil ?_
  refine sq_n ?_
  refine wc_cond rfl (fun hc97 => ?_) (fun hc97 => ?_)
  · replace hx := xif_t hc97 hx
    refine wc_seq ?_
    refine wc_region ?_
    refine wv rfl (r_assign rfl) ?_
    refine wv rfl (r_assign rfl) ?_
    refine wl_nil ?_
    refine sq_n ?_
    refine wc_ret ?_
    refine sq_ret ?_
    obtain rfl := Option.some.inj hx
    have hM := hM.nil0 (T := Int) 1 fI
    refine fin_ret [nS.v, (.bool false)] ⟨rfl, rfl, trivial⟩ ?_
    replace hM := hM.t1
    have hM := hM.fewer rsN
    exact ⟨nS, rfl, hM.gives⟩
  · replace hx := xif_f hc97 hx
    refine wc_skip ?_
    refine sq_n ?_
    refine wc_seq ?_
    refine wc_region ?_
    refine wv rfl (r_move rfl) ?_
    obtain ⟨r102, h103, hx⟩ := bind_some' hx
    refine w_call rfl rfl (hM.callO (l := []) fun X S oL hS hR hO => ct_impl_copyInts _ X S t s_t hS (hR _ (.head _)) oL h103) ?_
    rintro _ w104 ⟨s105, rfl, hM⟩
    replace hM : St ⟨w, X, S⟩ [oC (cSl 1 fI r102) s105.v] [rV s_t.v (cSl 1 fI t), rV s_l.v (cSl 1 fLDPart l)] _ := hM
    refine wv rfl (r_assign rfl) ?_
    refine wl_nil ?_
    refine sq_n ?_
    refine wc_seq ?_
    refine wc_seq ?_
    refine wc_region ?_
    refine wv rfl (r_move rfl) ?_
    refine wv rfl (r_lenC Try.underlying23 rfl (hM.seeR (.tail _ (.head _)))) ?_
    refine wv rfl (r_move rfl) ?_
    refine wl_nil ?_
    refine sq_n ?_
    refine wc_block ?_
    obtain ⟨y111, hx, hx112⟩ := bind_some' hx
    have hM := hM.fewer (rsC (.tail _ (.head _)) rsN)
    replace hM : St ⟨w, X, S⟩ [oC (cSl 1 fI r102) s105.v] [rV s_l.v (cSl 1 fLDPart l)] _ := hM
    have hl119 := Cs.le (hM.seeR (.head _))
    refine wc_loop (un fun (m116 : Nat) => un fun (k117 : Nat) => un fun (out113 : List Int) => fun (s115 : Sv) => [(6, s115.v), (16, s_l.v), (17, (.int .i64 (l.length : Int))), (18, (.int .i64 (k117 : Int)))]) (un fun (m116 : Nat) => un fun (k117 : Nat) => un fun (out113 : List Int) => fun (s115 : Sv) w' => St ⟨w, X, S⟩ [oC (cSl 1 fI out113) s115.v] [rV s_l.v (cSl 1 fLDPart l)] w' ∧ eachN _ _ m116 k117 out113 = some y111 ∧ k117 + m116 = l.length) (fun p => p.1) (l.length, 0, r102, s105) ⟨rfl, rfl, rfl, rfl, trivial⟩ ⟨hM, hx, Nat.zero_add _⟩ ?_
    rintro ⟨m116, k117, out113, s115⟩ w120 ⟨hM, hx, hk118⟩
    refine wc_seq ?_
    refine wc_region ?_
    refine wv rfl (r_lss rfl rfl) ?_
    refine wl_nil ?_
    refine sq_n ?_
    refine wc_seq ?_
    refine wc_cond rfl (fun hc122 => ?_) (fun hc122 => ?_)
    · replace hc122 := of_decide_eq_true hc122
      obtain ⟨m123, z124, rfl, hk118, hx, hx125⟩ := eachN_step hx hk118 hc122
      unfold x_impl_ApplyAll_f0 x_impl_ApplyAll_b0 at hx
      try dsimp only at hx
      refine wc_skip ?_
      refine sq_n ?_
      refine wc_seq ?_
      refine wc_block ?_
      refine wc_seq ?_
      refine wc_region ?_
      have hi127 : k117 < l.length := by omega
      refine wv rfl (r_ixC Try.underlying23 sz29 rfl rfl (hM.seeR (.head _)) ⟨by omega, hc122⟩) ?_
      obtain ⟨s129, hM, hc130⟩ := hM.leaf (i := k117) (j := 0) (.head _) (fun _ => rfl) hi127 rfl
      refine wv rfl (r_ld Try.underlying29 rfl rfl (hc130 _ (Rel.refl _))) ?_
      refine wv rfl (r_assign rfl) ?_
      refine wl_nil ?_
      refine sq_n ?_
      refine wc_seq ?_
      refine wc_region ?_
      refine wv rfl (r_move rfl) ?_
      refine wv rfl (r_move rfl) ?_
      obtain ⟨r134, h135, hx⟩ := bind_some' hx
      refine w_call rfl rfl (hM.callO (l := []) fun X S oL hS hR hO => ct_impl_Apply _ X S (el l k117) s129 out113 s115 hS (hR _ (.head _)) (seeA hO (.head _)) oL h135) ?_
      rintro _ w136 ⟨s137, rfl, hM⟩
      replace hM : St ⟨w, X, S⟩ [oC (cSl 1 fI r134.1) s137.v, oC (cSl 1 fI out113) s115.v] [rV s129.v (cSl 3 fDPart (el l k117)), rV s_l.v (cSl 1 fLDPart l)] _ := hM
      refine wv rfl (r_move rfl) ?_
      refine wv rfl (r_extract rfl rfl) ?_
      refine wv rfl (r_extract rfl rfl) ?_
      refine wv rfl (r_assign rfl) ?_
      refine wv rfl (r_assign rfl) ?_
      refine wl_nil ?_
      refine sq_n ?_
      refine wc_seq ?_
      refine wc_seq ?_
      refine wc_region ?_
      refine wv rfl (r_move rfl) ?_
      refine wv rfl (r_not rfl) ?_
      refine wl_nil ?_
      refine sq_n ?_
      refine wc_cond rfl (fun hc146 => ?_) (fun hc146 => ?_)
      · replace hx := xif_t hc146 hx
        refine wc_seq ?_
        refine wc_region ?_
        refine wv rfl (r_assign rfl) ?_
        refine wv rfl (r_assign rfl) ?_
        refine wl_nil ?_
        refine sq_n ?_
        refine wc_ret ?_
        refine sq_ret ?_
        refine bk_ret ?_
        refine sq_ret ?_
        refine lp1_ret ?_
        obtain rfl := Option.some.inj hx
        obtain rfl := Option.some.inj hx125
        replace hx := hx112
        try dsimp only [Sum.elim_inl, Sum.elim_inr] at hx
        refine bk_ret ?_
        refine sq_ret ?_
        obtain rfl := Option.some.inj hx
        have hM := hM.nil0 (T := Int) 1 fI
        refine fin_ret [nS.v, (.bool false)] ⟨rfl, rfl, trivial⟩ ?_
        replace hM := hM.t1
        have hM := hM.fewer rsN
        exact ⟨nS, rfl, hM.gives⟩
      · replace hx := xif_f hc146 hx
        refine wc_skip ?_
        refine sq_n ?_
        refine wc_region ?_
        refine wv rfl (r_move rfl) ?_
        refine wv rfl (r_assign rfl) ?_
        refine wl_nil ?_
        refine bk_n ?_
        refine sq_n ?_
        refine wc_region ?_
        refine wv rfl (r_add rfl rfl ⟨by omega, by omega⟩) ?_
        refine wv rfl (r_move rfl) ?_
        refine wl_nil ?_
        obtain rfl := Option.some.inj hx
        replace hM := hM.t1
        have hM := hM.fewer (rsC (.tail _ (.head _)) rsN)
        replace hM : St ⟨w, X, S⟩ [oC (cSl 1 fI r134.1) s137.v] [rV s_l.v (cSl 1 fLDPart l)] _ := hM
        exact lp_end (m123, k117 + 1, r134.1, s137) (Nat.lt_succ_self _) ⟨rfl, rfl, rfl, rfl, trivial⟩ ⟨hM, hx125, hk118⟩
    · replace hc122 := of_decide_eq_false hc122
      obtain rfl := eachN_end hx hk118 hc122
      refine wc_exit ?_
      refine sq_exit ?_
      refine lp1_exit ?_
      replace hx := hx112
      try dsimp only [Sum.elim_inl, Sum.elim_inr] at hx
      refine bk_here ?_
      refine sq_n ?_
      refine wc_seq ?_
      refine wc_region ?_
      refine wv rfl (r_move rfl) ?_
      refine wv rfl (r_assign rfl) ?_
      refine wv rfl (r_assign rfl) ?_
      refine wl_nil ?_
      refine sq_n ?_
      refine wc_ret ?_
      obtain rfl := Option.some.inj hx
      refine fin_ret [s115.v, (.bool true)] ⟨rfl, rfl, trivial⟩ ?_
      replace hM := hM.t1
      have hM := hM.fewer rsN
      exact ⟨s115, rfl, hM.gives⟩

noncomputable def x_impl_Idle (o : List DPart) : Option Bool :=
  Option.bind (x_impl_OpOk o) fun r3 => Option.bind (bif r3 then (Option.bind (x_impl_Puts o) fun r17 => some (decide (r17 = 0))) else (some false)) fun c8 => Option.bind (bif c8 then (Option.bind (x_impl_Drops o) fun r32 => some (decide (r32 = 0))) else (some false)) fun c23 => some c23
theorem ct_impl_Idle (w : World) (X S : Bs) (o : List DPart) (s_o : Sv) (hS : ∀ b, S b → b < w.heap.size ∧ ¬ X b) (a_o_0 : (cSl 3 fDPart o).rd S w s_o.v) (oL : Sep [] X w) {r : Bool} (hx : x_impl_Idle o = some r) :
    Ret Try.prog 31 [s_o.v] w (fun u w' => ∃ _ : Unit, u = (.bool r) ∧ Gives X S w [] [] w') := by
  unfold x_impl_Idle at hx
  refine enter Try.func31 rfl Try.ntmps31 (by kernel_rfl) rfl ?_
  have hM := St.enter oL hS
  have hM := hM.addE (r := rV s_o.v (cSl 3 fDPart o)) a_o_0
  refine wc_seq ?_
  refine wc_region ?_
  refine wv rfl (r_assign rfl) ?_
  refine wl_nil ?_
  refine sq_n ?_
  refine wc_seq ?_
  refine wc_region ?_
  refine wv rfl (r_move rfl) ?_
  obtain ⟨r40, h41, hx⟩ := bind_some' hx
  refine w_call rfl rfl (hM.callV fun X S oL hS hR hO => ct_impl_OpOk _ X S o s_o hS (hR _ (.head _)) oL h41) ?_
  rintro _ w42 ⟨rfl, hR43⟩
  have hM := hM.call hR43
  refine wv rfl (r_move rfl) ?_
  obtain ⟨c45, hx, hx53⟩ := bind_some' hx
  refine wl_mid 4 (fun _ : Unit => [(9, (.bool c45)), (0, s_o.v)]) (fun _ w' => St ⟨w, X, S⟩ [] [rV s_o.v (cSl 3 fDPart o)] w') ?_ ?_
  · rcases Bool.eq_false_or_eq_true r40 with hg46 | hg46
    · replace hx := xif_t hg46 hx
      refine gv rfl hg46 rfl (r_move rfl) ?_
      obtain ⟨r55, h56, hx⟩ := bind_some' hx
      refine gc rfl hg46 rfl rfl (hM.callV fun X S oL hS hR hO => ct_impl_Puts _ X S o s_o hS (hR _ (.head _)) oL h56) ?_
      rintro _ w57 ⟨rfl, hR58⟩
      have hM := hM.call hR58
      refine gv rfl hg46 rfl (r_eql rfl rfl) ?_
      refine wv rfl (p_t rfl hg46 rfl) ?_
      obtain rfl := Option.some.inj hx
      exact mid_nil () ⟨rfl, rfl, trivial⟩ hM
    · replace hx := xif_f hg46 hx
      refine gs rfl (isB_no hg46) rfl ?_
      refine gs rfl (isB_no hg46) rfl ?_
      refine gs rfl (isB_no hg46) rfl ?_
      refine wv rfl (p_f rfl hg46 rfl) ?_
      obtain rfl := Option.some.inj hx
      exact mid_nil () ⟨rfl, rfl, trivial⟩ hM
  rintro _ w60 hM
  replace hx := hx53
  refine wv rfl (r_move rfl) ?_
  obtain ⟨c62, hx, hx70⟩ := bind_some' hx
  refine wl_mid 4 (fun _ : Unit => [(14, (.bool c62))]) (fun _ w' => St ⟨w, X, S⟩ [] [rV s_o.v (cSl 3 fDPart o)] w') ?_ ?_
  · rcases Bool.eq_false_or_eq_true c45 with hg63 | hg63
    · replace hx := xif_t hg63 hx
      refine gv rfl hg63 rfl (r_move rfl) ?_
      obtain ⟨r72, h73, hx⟩ := bind_some' hx
      refine gc rfl hg63 rfl rfl (hM.callV fun X S oL hS hR hO => ct_impl_Drops _ X S o s_o hS (hR _ (.head _)) oL h73) ?_
      rintro _ w74 ⟨rfl, hR75⟩
      have hM := hM.call hR75
      refine gv rfl hg63 rfl (r_eql rfl rfl) ?_
      refine wv rfl (p_t rfl hg63 rfl) ?_
      obtain rfl := Option.some.inj hx
      exact mid_nil () ⟨rfl, trivial⟩ hM
    · replace hx := xif_f hg63 hx
      refine gs rfl (isB_no hg63) rfl ?_
      refine gs rfl (isB_no hg63) rfl ?_
      refine gs rfl (isB_no hg63) rfl ?_
      refine wv rfl (p_f rfl hg63 rfl) ?_
      obtain rfl := Option.some.inj hx
      exact mid_nil () ⟨rfl, trivial⟩ hM
  rintro _ w77 hM
  replace hx := hx70
  refine wv rfl (r_assign rfl) ?_
  refine wl_nil ?_
  refine sq_n ?_
  refine wc_ret ?_
  obtain rfl := Option.some.inj hx
  refine fin_ret [(.bool c62)] ⟨rfl, trivial⟩ ?_
  replace hM := hM.t0
  have hM := hM.fewer rsN
  exact ⟨(), rfl, hM.gives⟩

noncomputable def x_laws_FnMany (code : List UInt8) : Option Bool :=
  bif decide ((1048576 : Int) < (code.length : Int)) then (some true) else (Option.bind (x_spec_MakeOps code) fun r7 => Option.bind (x_impl_OpNorm r7.2.1) fun r24 => Option.bind (x_impl_MergeOps [r24, r7.2.2] (r7.1.length : Int)) fun r38 => Option.bind (x_impl_Transform r24 r7.2.2) fun r50 => Option.bind (x_impl_ApplyAll [r24, r50.2.1] r7.1) fun r71 => Option.bind (x_impl_Apply r38.1 r7.1) fun r83 => Option.bind (x_impl_MergeOps [] (r7.1.length : Int)) fun r95 => Option.bind (bif r38.2 then (some r50.2.2) else (some false)) fun c107 => Option.bind (bif c107 then (some r71.2) else (some false)) fun c112 => Option.bind (bif c112 then (some r83.2) else (some false)) fun c117 => Option.bind (bif c117 then (some r95.2) else (some false)) fun c122 => Option.bind (bif c122 then (Option.bind (x_impl_SignsSame r71.1 r83.1) fun r137 => some r137) else (some false)) fun c127 => Option.bind (bif c127 then (Option.bind (x_impl_Idle r95.1) fun r150 => some r150) else (some false)) fun c142 => some c142)
theorem ct_laws_FnMany (w : World) (X S : Bs) (code : List UInt8) (s_code : Sv) (hS : ∀ b, S b → b < w.heap.size ∧ ¬ X b) (a_code_0 : (cSl 1 fY code).rd S w s_code.v) (oL : Sep [] X w) {r : Bool} (hx : x_laws_FnMany code = some r) :
    Ret Try.prog 6 [s_code.v] w (fun u w' => ∃ _ : Unit, u = (.bool r) ∧ Gives X S w [] [] w') := by
  unfold x_laws_FnMany at hx
  refine enter Try.func6 rfl Try.ntmps6 (by kernel_rfl) rfl ?_
  have hM := St.enter oL hS
  have hM := hM.addE (r := rV s_code.v (cSl 1 fY code)) a_code_0
  refine wc_seq ?_
  refine wc_region ?_
  refine wv rfl (r_assign rfl) ?_
  refine wl_nil ?_
  refine sq_n ?_
  refine wc_seq ?_
  refine wc_seq ?_
  refine wc_region ?_
  refine wv rfl (r_move rfl) ?_
  refine wv rfl (r_lenC Try.underlying22 rfl (hM.seeR (.head _))) ?_
  refine wv rfl (r_gtr rfl rfl) ?_
  refine wl_nil ?_
  refine sq_n ?_
  refine wc_cond rfl (fun hc159 => ?_) (fun hc159 => ?_)
  · replace hx := xif_t hc159 hx
    refine wc_seq ?_
    refine wc_region ?_
    refine wv rfl (r_assign rfl) ?_
    refine wl_nil ?_
    refine sq_n ?_
    refine wc_ret ?_
    refine sq_ret ?_
    obtain rfl := Option.some.inj hx
    refine fin_ret [(.bool true)] ⟨rfl, trivial⟩ ?_
    replace hM := hM.t0
    have hM := hM.fewer rsN
    exact ⟨(), rfl, hM.gives⟩
  · replace hx := xif_f hc159 hx
    refine wc_skip ?_
    refine sq_n ?_
    refine wc_seq ?_
    refine wc_region ?_
    refine wv rfl (r_move rfl) ?_
    obtain ⟨r162, h163, hx⟩ := bind_some' hx
    refine w_call rfl rfl (hM.callO (l := []) fun X S oL hS hR hO => ct_spec_MakeOps _ X S code s_code hS (hR _ (.head _)) oL h163) ?_
    rintro _ w164 ⟨⟨s165, s166, s167⟩, rfl, hM⟩
    replace hM : St ⟨w, X, S⟩ [oC (cSl 1 fI r162.1) s165.v, oC (cSl 3 fDPart r162.2.1) s166.v, oC (cSl 3 fDPart r162.2.2) s167.v] [rV s_code.v (cSl 1 fY code)] _ := hM
    refine wv rfl (r_move rfl) ?_
    refine wv rfl (r_extract rfl rfl) ?_
    refine wv rfl (r_extract rfl rfl) ?_
    refine wv rfl (r_extract rfl rfl) ?_
    refine wv rfl (r_assign rfl) ?_
    refine wv rfl (r_assign rfl) ?_
    refine wv rfl (r_assign rfl) ?_
    refine wl_nil ?_
    refine sq_n ?_
    refine wc_seq ?_
    refine wc_region ?_
    refine wv rfl (r_move rfl) ?_
    obtain ⟨r179, h180, hx⟩ := bind_some' hx
    refine w_call rfl rfl (hM.callO (l := []) fun X S oL hS hR hO => ct_impl_OpNorm _ X S r162.2.1 s166 hS (seeA hO (.tail _ (.head _))) oL h180) ?_
    rintro _ w181 ⟨s182, rfl, hM⟩
    replace hM : St ⟨w, X, S⟩ [oC (cSl 3 fDPart r179) s182.v, oC (cSl 1 fI r162.1) s165.v, oC (cSl 3 fDPart r162.2.1) s166.v, oC (cSl 3 fDPart r162.2.2) s167.v] [rV s_code.v (cSl 1 fY code)] _ := hM
    refine wv rfl (r_assign rfl) ?_
    refine wl_nil ?_
    refine sq_n ?_
    refine wc_seq ?_
    refine wc_region ?_
    refine wv rfl (r_move rfl) ?_
    refine wv rfl (r_move rfl) ?_
    have hM := hM.selO
    replace hM := hM.p2
    have hM := hM.selO
    refine w_ex rfl (x_litS (f := fLDPart) [r179, r162.2.2] [s182.v, s167.v] 2 Try.underlying23 sz29 rfl rfl rfl rfl rfl (by kernel_rfl) (fun S w hR => ⟨_, _, rfl, hR _ (.tail _ (.head _)), ⟨_, _, rfl, hR _ (.head _), rfl⟩⟩) hM ?_); intro s188 w187 hR189 hM
    refine wv rfl (r_move rfl) ?_
    refine wv rfl (r_lenC Try.underlying26 rfl (hM.seeO (.tail _ (.head _)))) ?_
    have hM := hM.sealS (fun _ => rfl) (.head _)
    obtain ⟨r193, h194, hx⟩ := bind_some' hx
    refine w_call rfl rfl (hM.callO (l := []) fun X S oL hS hR hO => ct_impl_MergeOps _ X S [r179, r162.2.2] s188 (r162.1.length : Int) hS (hR _ (.head _)) oL h194) ?_
    rintro _ w195 ⟨s196, rfl, hM⟩
    replace hM : St ⟨w, X, S⟩ [oC (cSl 3 fDPart r193.1) s196.v, oC (cSl 1 fI r162.1) s165.v, oC (cSl 3 fDPart r162.2.1) s166.v] [rV s188.v (cSl 1 fLDPart [r179, r162.2.2]), rX [s182.v, s167.v] (([r179, r162.2.2] : List (List DPart)).flatMap fLDPart), rV s167.v (cSl 3 fDPart r162.2.2), rV s182.v (cSl 3 fDPart r179), rV s_code.v (cSl 1 fY code)] _ := hM
    refine wv rfl (r_move rfl) ?_
    refine wv rfl (r_extract rfl rfl) ?_
    refine wv rfl (r_extract rfl rfl) ?_
    refine wv rfl (r_assign rfl) ?_
    refine wv rfl (r_assign rfl) ?_
    refine wl_nil ?_
    refine sq_n ?_
    refine wc_seq ?_
    refine wc_region ?_
    refine wv rfl (r_move rfl) ?_
    refine wv rfl (r_move rfl) ?_
    obtain ⟨r205, h206, hx⟩ := bind_some' hx
    refine w_call rfl rfl (hM.callO (l := []) fun X S oL hS hR hO => ct_impl_Transform _ X S r179 s182 r162.2.2 s167 hS (hR _ (.tail _ (.tail _ (.tail _ (.head _))))) (hR _ (.tail _ (.tail _ (.head _)))) oL h206) ?_
    rintro _ w207 ⟨⟨s208, s209⟩, rfl, hM⟩
    replace hM : St ⟨w, X, S⟩ [oC (cSl 3 fDPart r205.1) s208.v, oC (cSl 3 fDPart r205.2.1) s209.v, oC (cSl 3 fDPart r193.1) s196.v, oC (cSl 1 fI r162.1) s165.v, oC (cSl 3 fDPart r162.2.1) s166.v] [rV s188.v (cSl 1 fLDPart [r179, r162.2.2]), rX [s182.v, s167.v] (([r179, r162.2.2] : List (List DPart)).flatMap fLDPart), rV s167.v (cSl 3 fDPart r162.2.2), rV s182.v (cSl 3 fDPart r179), rV s_code.v (cSl 1 fY code)] _ := hM
    refine wv rfl (r_move rfl) ?_
    refine wv rfl (r_extract rfl rfl) ?_
    refine wv rfl (r_extract rfl rfl) ?_
    refine wv rfl (r_extract rfl rfl) ?_
    refine wv rfl (r_assign rfl) ?_
    refine wv rfl (r_assign rfl) ?_
    refine wv rfl (r_assign rfl) ?_
    refine wl_nil ?_
    refine sq_n ?_
    refine wc_seq ?_
    refine wc_region ?_
    refine wv rfl (r_move rfl) ?_
    refine wv rfl (r_move rfl) ?_
    replace hM := hM.p1
    have hM := hM.selO
    refine w_ex rfl (x_litS (f := fLDPart) [r179, r205.2.1] [s182.v, s209.v] 2 Try.underlying23 sz29 rfl rfl rfl rfl rfl (by kernel_rfl) (fun S w hR => ⟨_, _, rfl, hR _ (.tail _ (.tail _ (.tail _ (.tail _ (.head _))))), ⟨_, _, rfl, hR _ (.head _), rfl⟩⟩) hM ?_); intro s222 w221 hR223 hM
    refine wv rfl (r_move rfl) ?_
    have hM := hM.sealS (fun _ => rfl) (.head _)
    obtain ⟨r226, h227, hx⟩ := bind_some' hx
    refine w_call rfl rfl (hM.callO (l := []) fun X S oL hS hR hO => ct_impl_ApplyAll _ X S [r179, r205.2.1] s222 r162.1 s165 hS (hR _ (.head _)) (seeA hO (.tail _ (.tail _ (.head _)))) oL h227) ?_
    rintro _ w228 ⟨s229, rfl, hM⟩
    replace hM : St ⟨w, X, S⟩ [oC (cSl 1 fI r226.1) s229.v, oC (cSl 3 fDPart r205.1) s208.v, oC (cSl 3 fDPart r193.1) s196.v, oC (cSl 1 fI r162.1) s165.v, oC (cSl 3 fDPart r162.2.1) s166.v] [rV s222.v (cSl 1 fLDPart [r179, r205.2.1]), rX [s182.v, s209.v] (([r179, r205.2.1] : List (List DPart)).flatMap fLDPart), rV s209.v (cSl 3 fDPart r205.2.1), rV s188.v (cSl 1 fLDPart [r179, r162.2.2]), rX [s182.v, s167.v] (([r179, r162.2.2] : List (List DPart)).flatMap fLDPart), rV s167.v (cSl 3 fDPart r162.2.2), rV s182.v (cSl 3 fDPart r179), rV s_code.v (cSl 1 fY code)] _ := hM
    refine wv rfl (r_move rfl) ?_
    refine wv rfl (r_extract rfl rfl) ?_
    refine wv rfl (r_extract rfl rfl) ?_
    refine wv rfl (r_assign rfl) ?_
    refine wv rfl (r_assign rfl) ?_
    refine wl_nil ?_
    refine sq_n ?_
    refine wc_seq ?_
    refine wc_region ?_
    refine wv rfl (r_move rfl) ?_
    refine wv rfl (r_move rfl) ?_
    obtain ⟨r238, h239, hx⟩ := bind_some' hx
    refine w_call rfl rfl (hM.callO (l := []) fun X S oL hS hR hO => ct_impl_Apply _ X S r193.1 s196 r162.1 s165 hS (seeA hO (.tail _ (.tail _ (.head _)))) (seeA hO (.tail _ (.tail _ (.tail _ (.head _))))) oL h239) ?_
    rintro _ w240 ⟨s241, rfl, hM⟩
    replace hM : St ⟨w, X, S⟩ [oC (cSl 1 fI r238.1) s241.v, oC (cSl 1 fI r226.1) s229.v, oC (cSl 3 fDPart r205.1) s208.v, oC (cSl 3 fDPart r193.1) s196.v, oC (cSl 1 fI r162.1) s165.v, oC (cSl 3 fDPart r162.2.1) s166.v] [rV s222.v (cSl 1 fLDPart [r179, r205.2.1]), rX [s182.v, s209.v] (([r179, r205.2.1] : List (List DPart)).flatMap fLDPart), rV s209.v (cSl 3 fDPart r205.2.1), rV s188.v (cSl 1 fLDPart [r179, r162.2.2]), rX [s182.v, s167.v] (([r179, r162.2.2] : List (List DPart)).flatMap fLDPart), rV s167.v (cSl 3 fDPart r162.2.2), rV s182.v (cSl 3 fDPart r179), rV s_code.v (cSl 1 fY code)] _ := hM
    refine wv rfl (r_move rfl) ?_
    refine wv rfl (r_extract rfl rfl) ?_
    refine wv rfl (r_extract rfl rfl) ?_
    refine wv rfl (r_assign rfl) ?_
    refine wv rfl (r_assign rfl) ?_
    refine wl_nil ?_
    refine sq_n ?_
    refine wc_seq ?_
    refine wc_region ?_
    refine wv rfl (r_move rfl) ?_
    refine wv rfl (r_lenC Try.underlying26 rfl (hM.seeO (.tail _ (.tail _ (.tail _ (.tail _ (.head _))))))) ?_
    obtain ⟨r250, h251, hx⟩ := bind_some' hx
    refine w_call rfl rfl (hM.callO (l := []) fun X S oL hS hR hO => ct_impl_MergeOps _ X S [] nS (r162.1.length : Int) hS (rd_nil _ _) oL h251) ?_
    rintro _ w252 ⟨s253, rfl, hM⟩
    replace hM : St ⟨w, X, S⟩ [oC (cSl 3 fDPart r250.1) s253.v, oC (cSl 1 fI r238.1) s241.v, oC (cSl 1 fI r226.1) s229.v, oC (cSl 3 fDPart r205.1) s208.v, oC (cSl 3 fDPart r193.1) s196.v, oC (cSl 1 fI r162.1) s165.v, oC (cSl 3 fDPart r162.2.1) s166.v] [rV s222.v (cSl 1 fLDPart [r179, r205.2.1]), rX [s182.v, s209.v] (([r179, r205.2.1] : List (List DPart)).flatMap fLDPart), rV s209.v (cSl 3 fDPart r205.2.1), rV s188.v (cSl 1 fLDPart [r179, r162.2.2]), rX [s182.v, s167.v] (([r179, r162.2.2] : List (List DPart)).flatMap fLDPart), rV s167.v (cSl 3 fDPart r162.2.2), rV s182.v (cSl 3 fDPart r179), rV s_code.v (cSl 1 fY code)] _ := hM
    refine wv rfl (r_move rfl) ?_
    refine wv rfl (r_extract rfl rfl) ?_
    refine wv rfl (r_extract rfl rfl) ?_
    refine wv rfl (r_assign rfl) ?_
    refine wv rfl (r_assign rfl) ?_
    refine wl_nil ?_
    refine sq_n ?_
    refine wc_seq ?_
    refine wc_region ?_
    refine wv rfl (r_move rfl) ?_
    refine wv rfl (r_move rfl) ?_
    obtain ⟨c262, hx, hx265⟩ := bind_some' hx
    refine wl_mid 2 (fun _ : Unit => [(68, (.bool c262)), (12, s229.v), (13, (.bool r226.2)), (14, s241.v), (15, (.bool r238.2)), (16, s253.v), (17, (.bool r250.2))]) (fun _ w' => St ⟨w, X, S⟩ [oC (cSl 3 fDPart r250.1) s253.v, oC (cSl 1 fI r238.1) s241.v, oC (cSl 1 fI r226.1) s229.v, oC (cSl 3 fDPart r205.1) s208.v, oC (cSl 3 fDPart r193.1) s196.v, oC (cSl 1 fI r162.1) s165.v, oC (cSl 3 fDPart r162.2.1) s166.v] [rV s222.v (cSl 1 fLDPart [r179, r205.2.1]), rX [s182.v, s209.v] (([r179, r205.2.1] : List (List DPart)).flatMap fLDPart), rV s209.v (cSl 3 fDPart r205.2.1), rV s188.v (cSl 1 fLDPart [r179, r162.2.2]), rX [s182.v, s167.v] (([r179, r162.2.2] : List (List DPart)).flatMap fLDPart), rV s167.v (cSl 3 fDPart r162.2.2), rV s182.v (cSl 3 fDPart r179), rV s_code.v (cSl 1 fY code)] w') ?_ ?_
    · rcases Bool.eq_false_or_eq_true r193.2 with hg263 | hg263
      · replace hx := xif_t hg263 hx
        refine gv rfl hg263 rfl (r_move rfl) ?_
        refine wv rfl (p_t rfl hg263 rfl) ?_
        obtain rfl := Option.some.inj hx
        exact mid_nil () ⟨rfl, rfl, rfl, rfl, rfl, rfl, rfl, trivial⟩ hM
      · replace hx := xif_f hg263 hx
        refine gs rfl (isB_no hg263) rfl ?_
        refine wv rfl (p_f rfl hg263 rfl) ?_
        obtain rfl := Option.some.inj hx
        exact mid_nil () ⟨rfl, rfl, rfl, rfl, rfl, rfl, rfl, trivial⟩ hM
    rintro _ w267 hM
    replace hx := hx265
    refine wv rfl (r_move rfl) ?_
    obtain ⟨c269, hx, hx272⟩ := bind_some' hx
    refine wl_mid 2 (fun _ : Unit => [(71, (.bool c269)), (12, s229.v), (14, s241.v), (15, (.bool r238.2)), (16, s253.v), (17, (.bool r250.2))]) (fun _ w' => St ⟨w, X, S⟩ [oC (cSl 3 fDPart r250.1) s253.v, oC (cSl 1 fI r238.1) s241.v, oC (cSl 1 fI r226.1) s229.v, oC (cSl 3 fDPart r205.1) s208.v, oC (cSl 3 fDPart r193.1) s196.v, oC (cSl 1 fI r162.1) s165.v, oC (cSl 3 fDPart r162.2.1) s166.v] [rV s222.v (cSl 1 fLDPart [r179, r205.2.1]), rX [s182.v, s209.v] (([r179, r205.2.1] : List (List DPart)).flatMap fLDPart), rV s209.v (cSl 3 fDPart r205.2.1), rV s188.v (cSl 1 fLDPart [r179, r162.2.2]), rX [s182.v, s167.v] (([r179, r162.2.2] : List (List DPart)).flatMap fLDPart), rV s167.v (cSl 3 fDPart r162.2.2), rV s182.v (cSl 3 fDPart r179), rV s_code.v (cSl 1 fY code)] w') ?_ ?_
    · rcases Bool.eq_false_or_eq_true c262 with hg270 | hg270
      · replace hx := xif_t hg270 hx
        refine gv rfl hg270 rfl (r_move rfl) ?_
        refine wv rfl (p_t rfl hg270 rfl) ?_
        obtain rfl := Option.some.inj hx
        exact mid_nil () ⟨rfl, rfl, rfl, rfl, rfl, rfl, trivial⟩ hM
      · replace hx := xif_f hg270 hx
        refine gs rfl (isB_no hg270) rfl ?_
        refine wv rfl (p_f rfl hg270 rfl) ?_
        obtain rfl := Option.some.inj hx
        exact mid_nil () ⟨rfl, rfl, rfl, rfl, rfl, rfl, trivial⟩ hM
    rintro _ w274 hM
    replace hx := hx272
    refine wv rfl (r_move rfl) ?_
    obtain ⟨c276, hx, hx279⟩ := bind_some' hx
    refine wl_mid 2 (fun _ : Unit => [(74, (.bool c276)), (12, s229.v), (14, s241.v), (16, s253.v), (17, (.bool r250.2))]) (fun _ w' => St ⟨w, X, S⟩ [oC (cSl 3 fDPart r250.1) s253.v, oC (cSl 1 fI r238.1) s241.v, oC (cSl 1 fI r226.1) s229.v, oC (cSl 3 fDPart r205.1) s208.v, oC (cSl 3 fDPart r193.1) s196.v, oC (cSl 1 fI r162.1) s165.v, oC (cSl 3 fDPart r162.2.1) s166.v] [rV s222.v (cSl 1 fLDPart [r179, r205.2.1]), rX [s182.v, s209.v] (([r179, r205.2.1] : List (List DPart)).flatMap fLDPart), rV s209.v (cSl 3 fDPart r205.2.1), rV s188.v (cSl 1 fLDPart [r179, r162.2.2]), rX [s182.v, s167.v] (([r179, r162.2.2] : List (List DPart)).flatMap fLDPart), rV s167.v (cSl 3 fDPart r162.2.2), rV s182.v (cSl 3 fDPart r179), rV s_code.v (cSl 1 fY code)] w') ?_ ?_
    · rcases Bool.eq_false_or_eq_true c269 with hg277 | hg277
      · replace hx := xif_t hg277 hx
        refine gv rfl hg277 rfl (r_move rfl) ?_
        refine wv rfl (p_t rfl hg277 rfl) ?_
        obtain rfl := Option.some.inj hx
        exact mid_nil () ⟨rfl, rfl, rfl, rfl, rfl, trivial⟩ hM
      · replace hx := xif_f hg277 hx
        refine gs rfl (isB_no hg277) rfl ?_
        refine wv rfl (p_f rfl hg277 rfl) ?_
        obtain rfl := Option.some.inj hx
        exact mid_nil () ⟨rfl, rfl, rfl, rfl, rfl, trivial⟩ hM
    rintro _ w281 hM
    replace hx := hx279
    refine wv rfl (r_move rfl) ?_
    obtain ⟨c283, hx, hx286⟩ := bind_some' hx
    refine wl_mid 2 (fun _ : Unit => [(77, (.bool c283)), (12, s229.v), (14, s241.v), (16, s253.v)]) (fun _ w' => St ⟨w, X, S⟩ [oC (cSl 3 fDPart r250.1) s253.v, oC (cSl 1 fI r238.1) s241.v, oC (cSl 1 fI r226.1) s229.v, oC (cSl 3 fDPart r205.1) s208.v, oC (cSl 3 fDPart r193.1) s196.v, oC (cSl 1 fI r162.1) s165.v, oC (cSl 3 fDPart r162.2.1) s166.v] [rV s222.v (cSl 1 fLDPart [r179, r205.2.1]), rX [s182.v, s209.v] (([r179, r205.2.1] : List (List DPart)).flatMap fLDPart), rV s209.v (cSl 3 fDPart r205.2.1), rV s188.v (cSl 1 fLDPart [r179, r162.2.2]), rX [s182.v, s167.v] (([r179, r162.2.2] : List (List DPart)).flatMap fLDPart), rV s167.v (cSl 3 fDPart r162.2.2), rV s182.v (cSl 3 fDPart r179), rV s_code.v (cSl 1 fY code)] w') ?_ ?_
    · rcases Bool.eq_false_or_eq_true c276 with hg284 | hg284
      · replace hx := xif_t hg284 hx
        refine gv rfl hg284 rfl (r_move rfl) ?_
        refine wv rfl (p_t rfl hg284 rfl) ?_
        obtain rfl := Option.some.inj hx
        exact mid_nil () ⟨rfl, rfl, rfl, rfl, trivial⟩ hM
      · replace hx := xif_f hg284 hx
        refine gs rfl (isB_no hg284) rfl ?_
        refine wv rfl (p_f rfl hg284 rfl) ?_
        obtain rfl := Option.some.inj hx
        exact mid_nil () ⟨rfl, rfl, rfl, rfl, trivial⟩ hM
    rintro _ w288 hM
    replace hx := hx286
    refine wv rfl (r_move rfl) ?_
    obtain ⟨c290, hx, hx298⟩ := bind_some' hx
    refine wl_mid 4 (fun _ : Unit => [(82, (.bool c290)), (16, s253.v)]) (fun _ w' => St ⟨w, X, S⟩ [oC (cSl 3 fDPart r250.1) s253.v, oC (cSl 1 fI r238.1) s241.v, oC (cSl 1 fI r226.1) s229.v, oC (cSl 3 fDPart r205.1) s208.v, oC (cSl 3 fDPart r193.1) s196.v, oC (cSl 1 fI r162.1) s165.v, oC (cSl 3 fDPart r162.2.1) s166.v] [rV s222.v (cSl 1 fLDPart [r179, r205.2.1]), rX [s182.v, s209.v] (([r179, r205.2.1] : List (List DPart)).flatMap fLDPart), rV s209.v (cSl 3 fDPart r205.2.1), rV s188.v (cSl 1 fLDPart [r179, r162.2.2]), rX [s182.v, s167.v] (([r179, r162.2.2] : List (List DPart)).flatMap fLDPart), rV s167.v (cSl 3 fDPart r162.2.2), rV s182.v (cSl 3 fDPart r179), rV s_code.v (cSl 1 fY code)] w') ?_ ?_
    · rcases Bool.eq_false_or_eq_true c283 with hg291 | hg291
      · replace hx := xif_t hg291 hx
        refine gv rfl hg291 rfl (r_move rfl) ?_
        refine gv rfl hg291 rfl (r_move rfl) ?_
        obtain ⟨r301, h302, hx⟩ := bind_some' hx
        refine gc rfl hg291 rfl rfl (hM.callV fun X S oL hS hR hO => ct_impl_SignsSame _ X S r226.1 s229 r238.1 s241 hS (seeA hO (.tail _ (.tail _ (.head _)))) (seeA hO (.tail _ (.head _))) oL h302) ?_
        rintro _ w303 ⟨rfl, hR304⟩
        have hM := hM.call hR304
        refine wv rfl (p_t rfl hg291 rfl) ?_
        obtain rfl := Option.some.inj hx
        exact mid_nil () ⟨rfl, rfl, trivial⟩ hM
      · replace hx := xif_f hg291 hx
        refine gs rfl (isB_no hg291) rfl ?_
        refine gs rfl (isB_no hg291) rfl ?_
        refine gs rfl (isB_no hg291) rfl ?_
        refine wv rfl (p_f rfl hg291 rfl) ?_
        obtain rfl := Option.some.inj hx
        exact mid_nil () ⟨rfl, rfl, trivial⟩ hM
    rintro _ w305 hM
    replace hx := hx298
    refine wv rfl (r_move rfl) ?_
    obtain ⟨c307, hx, hx314⟩ := bind_some' hx
    refine wl_mid 3 (fun _ : Unit => [(86, (.bool c307))]) (fun _ w' => St ⟨w, X, S⟩ [oC (cSl 3 fDPart r250.1) s253.v, oC (cSl 1 fI r238.1) s241.v, oC (cSl 1 fI r226.1) s229.v, oC (cSl 3 fDPart r205.1) s208.v, oC (cSl 3 fDPart r193.1) s196.v, oC (cSl 1 fI r162.1) s165.v, oC (cSl 3 fDPart r162.2.1) s166.v] [rV s222.v (cSl 1 fLDPart [r179, r205.2.1]), rX [s182.v, s209.v] (([r179, r205.2.1] : List (List DPart)).flatMap fLDPart), rV s209.v (cSl 3 fDPart r205.2.1), rV s188.v (cSl 1 fLDPart [r179, r162.2.2]), rX [s182.v, s167.v] (([r179, r162.2.2] : List (List DPart)).flatMap fLDPart), rV s167.v (cSl 3 fDPart r162.2.2), rV s182.v (cSl 3 fDPart r179), rV s_code.v (cSl 1 fY code)] w') ?_ ?_
    · rcases Bool.eq_false_or_eq_true c290 with hg308 | hg308
      · replace hx := xif_t hg308 hx
        refine gv rfl hg308 rfl (r_move rfl) ?_
        obtain ⟨r316, h317, hx⟩ := bind_some' hx
        refine gc rfl hg308 rfl rfl (hM.callV fun X S oL hS hR hO => ct_impl_Idle _ X S r250.1 s253 hS (seeA hO (.head _)) oL h317) ?_
        rintro _ w318 ⟨rfl, hR319⟩
        have hM := hM.call hR319
        refine wv rfl (p_t rfl hg308 rfl) ?_
        obtain rfl := Option.some.inj hx
        exact mid_nil () ⟨rfl, trivial⟩ hM
      · replace hx := xif_f hg308 hx
        refine gs rfl (isB_no hg308) rfl ?_
        refine gs rfl (isB_no hg308) rfl ?_
        refine wv rfl (p_f rfl hg308 rfl) ?_
        obtain rfl := Option.some.inj hx
        exact mid_nil () ⟨rfl, trivial⟩ hM
    rintro _ w320 hM
    replace hx := hx314
    refine wv rfl (r_assign rfl) ?_
    refine wl_nil ?_
    refine sq_n ?_
    refine wc_ret ?_
    obtain rfl := Option.some.inj hx
    refine fin_ret [(.bool c307)] ⟨rfl, trivial⟩ ?_
    replace hM := hM.t0
    have hM := hM.fewer rsN
    exact ⟨(), rfl, hM.gives⟩

end Go.Proofs.Ythfkcpdechjmnaa
