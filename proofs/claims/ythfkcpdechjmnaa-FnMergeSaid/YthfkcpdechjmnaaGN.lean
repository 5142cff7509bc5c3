/- Walks of functions of this program (printed by a program of ours, by the rules of the layer). No condition. -/
import Derived.Test.YthfkcpdechjmnaaGD
import Derived.Test.YthfkcpdechjmnaaGU
import Derived.Test.YthfkcpdechjmnaaNr
namespace Go.Proofs.Ythfkcpdechjmnaa
open Go.RowKit

noncomputable def x_impl_ApplyAll_b0 (_l : List (List DPart)) (_k21 : Nat) (x79 : List DPart) (out22 : List Int) : Option (Lr (List Int) (Sum (List Int) Unit)) :=
  Option.bind (x_impl_Apply x79 out22) fun r61 => bif !r61.2 then (some (Lr.out (Sum.inr (())))) else (some (Lr.go r61.1))
noncomputable def x_impl_ApplyAll_f0 (l : List (List DPart)) (k21 : Nat) (s80 : List Int) : Option (Lr (List Int) (Sum (List Int) Unit)) := x_impl_ApplyAll_b0 l k21 (el l k21) s80
noncomputable def x_impl_ApplyAll (l : List (List DPart)) (t : List Int) : Option (List Int × Bool) :=
  Option.bind (x_impl_TextOk t) fun r4 => bif !r4 then (some ([], false)) else (Option.bind (x_impl_copyInts t) fun r12 => Option.bind (eachN (x_impl_ApplyAll_f0 l) (fun (s80 : List Int) => (Sum.inl s80 : Sum (List Int) Unit)) l.length 0 r12) fun (y81 : Sum (List Int) Unit) => Sum.elim (fun y82 => some (y82, true)) (fun _y83 => some ([], false)) y81)
theorem ct_impl_ApplyAll (w : World) (X S : Bs) (l : List (List DPart)) (s_l : Sv) (t : List Int) (s_t : Sv) (hS : ∀ b, S b → b < w.heap.size ∧ ¬ X b) (a_l_0 : (cSl 1 fLDPart l).rd S w s_l.v) (a_t_0 : (cSl 1 fI t).rd S w s_t.v) (oL : Sep [] X w) {r : List Int × Bool} (hx : x_impl_ApplyAll l t = some r) :
    Ret Try.prog 30 [s_l.v, s_t.v] w (fun u w' => ∃ y : Sv, u = .tuple #[y.v, (.bool r.2)] ∧ Gives X S w [oC (cSl 1 fI r.1) y.v] [] w') := by
  unfold x_impl_ApplyAll at hx
  refine enter Try.func30 rfl Try.ntmps30 (by kernel_rfl) rfl ?_
  have hM := St.enter oL hS
  have hM := hM.addE (r := rV s_l.v (cSl 1 fLDPart l)) a_l_0
  have hM := hM.addE (r := rV s_t.v (cSl 1 fI t)) a_t_0
  refine wc_seq ?_
  refine wc_region ?_
  refine wv rfl (r_assign rfl) ?_
  refine wv rfl (r_assign rfl) ?_
  refine wl_nil ?_
  refine sq_n ?_
  refine wc_seq ?_
  refine wc_seq ?_
  refine wc_region ?_
  refine wv rfl (r_move rfl) ?_
  obtain ⟨r92, h93, hx⟩ := bind_some' hx
  refine w_call rfl rfl (hM.callV fun X S oL hS hR hO => ct_impl_TextOk _ X S t s_t hS (hR _ (.head _)) oL h93) ?_
  rintro _ w94 ⟨rfl, hR95⟩
  have hM := hM.call hR95
  refine wv rfl (r_not rfl) ?_
  refine wl_nil ?_
  refine sq_n ?_
  refine wc_cond rfl (fun hc97 => ?_) (fun hc97 => ?_)
  · replace hx := xif_t hc97 hx
    refine wc_seq ?_
    refine wc_region ?_
    refine wv rfl (r_assign rfl) ?_
    refine wv rfl (r_assign rfl) ?_
    refine wl_nil ?_
    refine sq_n ?_
    refine wc_ret ?_
    refine sq_ret ?_
    obtain rfl := Option.some.inj hx
    have hM := hM.nil0 (T := Int) 1 fI
    refine fin_ret [nS.v, (.bool false)] ⟨rfl, rfl, trivial⟩ ?_
    replace hM := hM.t1
    have hM := hM.fewer rsN
    exact ⟨nS, rfl, hM.gives⟩
  · replace hx := xif_f hc97 hx
    refine wc_skip ?_
    refine sq_n ?_
    refine wc_seq ?_
    refine wc_region ?_
    refine wv rfl (r_move rfl) ?_
    obtain ⟨r102, h103, hx⟩ := bind_some' hx
    refine w_call rfl rfl (hM.callO (l := []) fun X S oL hS hR hO => ct_impl_copyInts _ X S t s_t hS (hR _ (.head _)) oL h103) ?_
    rintro _ w104 ⟨s105, rfl, hM⟩
    replace hM : St ⟨w, X, S⟩ [oC (cSl 1 fI r102) s105.v] [rV s_t.v (cSl 1 fI t), rV s_l.v (cSl 1 fLDPart l)] _ := hM
    refine wv rfl (r_assign rfl) ?_
    refine wl_nil ?_
    refine sq_n ?_
    refine wc_seq ?_
    refine wc_seq ?_
    refine wc_region ?_
    refine wv rfl (r_move rfl) ?_
    refine wv rfl (r_lenC Try.underlying23 rfl (hM.seeR (.tail _ (.head _)))) ?_
    refine wv rfl (r_move rfl) ?_
    refine wl_nil ?_
    refine sq_n ?_
    refine wc_block ?_
    obtain ⟨y111, hx, hx112⟩ := bind_some' hx
    have hM := hM.fewer (rsC (.tail _ (.head _)) rsN)
    replace hM : St ⟨w, X, S⟩ [oC (cSl 1 fI r102) s105.v] [rV s_l.v (cSl 1 fLDPart l)] _ := hM
    have hl119 := Cs.le (hM.seeR (.head _))
    refine wc_loop (un fun (m116 : Nat) => un fun (k117 : Nat) => un fun (out113 : List Int) => fun (s115 : Sv) => [(6, s115.v), (16, s_l.v), (17, (.int .i64 (l.length : Int))), (18, (.int .i64 (k117 : Int)))]) (un fun (m116 : Nat) => un fun (k117 : Nat) => un fun (out113 : List Int) => fun (s115 : Sv) w' => St ⟨w, X, S⟩ [oC (cSl 1 fI out113) s115.v] [rV s_l.v (cSl 1 fLDPart l)] w' ∧ eachN _ _ m116 k117 out113 = some y111 ∧ k117 + m116 = l.length) (fun p => p.1) (l.length, 0, r102, s105) ⟨rfl, rfl, rfl, rfl, trivial⟩ ⟨hM, hx, Nat.zero_add _⟩ ?_
    rintro ⟨m116, k117, out113, s115⟩ w120 ⟨hM, hx, hk118⟩
    refine wc_seq ?_
    refine wc_region ?_
    refine wv rfl (r_lss rfl rfl) ?_
    refine wl_nil ?_
    refine sq_n ?_
    refine wc_seq ?_
    refine wc_cond rfl (fun hc122 => ?_) (fun hc122 => ?_)
    · replace hc122 := of_decide_eq_true hc122
      obtain ⟨m123, z124, rfl, hk118, hx, hx125⟩ := eachN_step hx hk118 hc122
      unfold x_impl_ApplyAll_f0 x_impl_ApplyAll_b0 at hx
      try dsimp only at hx
      refine wc_skip ?_
      refine sq_n ?_
      refine wc_seq ?_
      refine wc_block ?_
      refine wc_seq ?_
      refine wc_region ?_
      have hi127 : k117 < l.length := by omega
      refine wv rfl (r_ixC Try.underlying23 sz29 rfl rfl (hM.seeR (.head _)) ⟨by omega, hc122⟩) ?_
      obtain ⟨s129, hM, hc130⟩ := hM.leaf (i := k117) (j := 0) (.head _) (fun _ => rfl) hi127 rfl
      refine wv rfl (r_ld Try.underlying29 rfl rfl (hc130 _ (Rel.refl _))) ?_
      refine wv rfl (r_assign rfl) ?_
      refine wl_nil ?_
      refine sq_n ?_
      refine wc_seq ?_
      refine wc_region ?_
      refine wv rfl (r_move rfl) ?_
      refine wv rfl (r_move rfl) ?_
      obtain ⟨r134, h135, hx⟩ := bind_some' hx
      refine w_call rfl rfl (hM.callO (l := []) fun X S oL hS hR hO => ct_impl_Apply _ X S (el l k117) s129 out113 s115 hS (hR _ (.head _)) (seeA hO (.head _)) oL h135) ?_
      rintro _ w136 ⟨s137, rfl, hM⟩
      replace hM : St ⟨w, X, S⟩ [oC (cSl 1 fI r134.1) s137.v, oC (cSl 1 fI out113) s115.v] [rV s129.v (cSl 3 fDPart (el l k117)), rV s_l.v (cSl 1 fLDPart l)] _ := hM
      refine wv rfl (r_move rfl) ?_
      refine wv rfl (r_extract rfl rfl) ?_
      refine wv rfl (r_extract rfl rfl) ?_
      refine wv rfl (r_assign rfl) ?_
      refine wv rfl (r_assign rfl) ?_
      refine wl_nil ?_
      refine sq_n ?_
      refine wc_seq ?_
      refine wc_seq ?_
      refine wc_region ?_
      refine wv rfl (r_move rfl) ?_
      refine wv rfl (r_not rfl) ?_
      refine wl_nil ?_
      refine sq_n ?_
      refine wc_cond rfl (fun hc146 => ?_) (fun hc146 => ?_)
      · replace hx := xif_t hc146 hx
        refine wc_seq ?_
        refine wc_region ?_
        refine wv rfl (r_assign rfl) ?_
        refine wv rfl (r_assign rfl) ?_
        refine wl_nil ?_
        refine sq_n ?_
        refine wc_ret ?_
        refine sq_ret ?_
        refine bk_ret ?_
        refine sq_ret ?_
        refine lp1_ret ?_
        obtain rfl := Option.some.inj hx
        obtain rfl := Option.some.inj hx125
        replace hx := hx112
        try dsimp only [Sum.elim_inl, Sum.elim_inr] at hx
        refine bk_ret ?_
        refine sq_ret ?_
        obtain rfl := Option.some.inj hx
        have hM := hM.nil0 (T := Int) 1 fI
        refine fin_ret [nS.v, (.bool false)] ⟨rfl, rfl, trivial⟩ ?_
        replace hM := hM.t1
        have hM := hM.fewer rsN
        exact ⟨nS, rfl, hM.gives⟩
      · replace hx := xif_f hc146 hx
        refine wc_skip ?_
        refine sq_n ?_
        refine wc_region ?_
        refine wv rfl (r_move rfl) ?_
        refine wv rfl (r_assign rfl) ?_
        refine wl_nil ?_
        refine bk_n ?_
        refine sq_n ?_
        refine wc_region ?_
        refine wv rfl (r_add rfl rfl ⟨by omega, by omega⟩) ?_
        refine wv rfl (r_move rfl) ?_
        refine wl_nil ?_
        obtain rfl := Option.some.inj hx
        replace hM := hM.t1
        have hM := hM.fewer (rsC (.tail _ (.head _)) rsN)
        replace hM : St ⟨w, X, S⟩ [oC (cSl 1 fI r134.1) s137.v] [rV s_l.v (cSl 1 fLDPart l)] _ := hM
        exact lp_end (m123, k117 + 1, r134.1, s137) (Nat.lt_succ_self _) ⟨rfl, rfl, rfl, rfl, trivial⟩ ⟨hM, hx125, hk118⟩
    · replace hc122 := of_decide_eq_false hc122
      obtain rfl := eachN_end hx hk118 hc122
      refine wc_exit ?_
      refine sq_exit ?_
      refine lp1_exit ?_
      replace hx := hx112
      try dsimp only [Sum.elim_inl, Sum.elim_inr] at hx
      refine bk_here ?_
      refine sq_n ?_
      refine wc_seq ?_
      refine wc_region ?_
      refine wv rfl (r_move rfl) ?_
      refine wv rfl (r_assign rfl) ?_
      refine wv rfl (r_assign rfl) ?_
      refine wl_nil ?_
      refine sq_n ?_
      refine wc_ret ?_
      obtain rfl := Option.some.inj hx
      refine fin_ret [s115.v, (.bool true)] ⟨rfl, rfl, trivial⟩ ?_
      replace hM := hM.t1
      have hM := hM.fewer rsN
      exact ⟨s115, rfl, hM.gives⟩

noncomputable def x_impl_Merge (t : List Int) (a : List Int) (b : List Int) : Option (List Int × Bool) :=
  Option.bind (x_impl_Diff t a) fun r5 => Option.bind (x_impl_Diff t b) fun r17 => Option.bind (bif !r5.2 then (some true) else (some (!r17.2))) fun c30 => bif c30 then (some ([], false)) else (Option.bind (x_impl_Transform r5.1 r17.1) fun r40 => bif !r40.2.2 then (some ([], false)) else (Option.bind (x_impl_ApplyAll [r5.1, r40.2.1] t) fun r65 => some (r65.1, r65.2)))
theorem ct_impl_Merge (w : World) (X S : Bs) (t : List Int) (s_t : Sv) (a : List Int) (s_a : Sv) (b : List Int) (s_b : Sv) (hS : ∀ b, S b → b < w.heap.size ∧ ¬ X b) (a_t_0 : (cSl 1 fI t).rd S w s_t.v) (a_a_0 : (cSl 1 fI a).rd S w s_a.v) (a_b_0 : (cSl 1 fI b).rd S w s_b.v) (oL : Sep [] X w) {r : List Int × Bool} (hx : x_impl_Merge t a b = some r) :
    Ret Try.prog 23 [s_t.v, s_a.v, s_b.v] w (fun u w' => ∃ y : Sv, u = .tuple #[y.v, (.bool r.2)] ∧ Gives X S w [oC (cSl 1 fI r.1) y.v] [] w') := by
  unfold x_impl_Merge at hx
  refine enter Try.func23 rfl Try.ntmps23 (by kernel_rfl) rfl ?_
  have hM := St.enter oL hS
  have hM := hM.addE (r := rV s_t.v (cSl 1 fI t)) a_t_0
  have hM := hM.addE (r := rV s_a.v (cSl 1 fI a)) a_a_0
  have hM := hM.addE (r := rV s_b.v (cSl 1 fI b)) a_b_0
  refine wc_seq ?_
  refine wc_region ?_
  refine wv rfl (r_assign rfl) ?_
  refine wv rfl (r_assign rfl) ?_
  refine wl_nil ?_
  refine sq_n ?_
  refine wc_seq ?_
  refine wc_region ?_
  refine wv rfl (r_move rfl) ?_
  refine wv rfl (r_move rfl) ?_
  obtain ⟨r78, h79, hx⟩ := bind_some' hx
  refine w_call rfl rfl (hM.callO (l := []) fun X S oL hS hR hO => ct_impl_Diff _ X S t s_t a s_a hS (hR _ (.tail _ (.tail _ (.head _)))) (hR _ (.tail _ (.head _))) oL h79) ?_
  rintro _ w80 ⟨s81, rfl, hM⟩
  replace hM : St ⟨w, X, S⟩ [oC (cSl 3 fDPart r78.1) s81.v] [rV s_b.v (cSl 1 fI b), rV s_a.v (cSl 1 fI a), rV s_t.v (cSl 1 fI t)] _ := hM
  refine wv rfl (r_move rfl) ?_
  refine wv rfl (r_extract rfl rfl) ?_
  refine wv rfl (r_extract rfl rfl) ?_
  refine wv rfl (r_assign rfl) ?_
  refine wv rfl (r_assign rfl) ?_
  refine wl_nil ?_
  refine sq_n ?_
  refine wc_seq ?_
  refine wc_region ?_
  refine wv rfl (r_move rfl) ?_
  refine wv rfl (r_move rfl) ?_
  obtain ⟨r90, h91, hx⟩ := bind_some' hx
  refine w_call rfl rfl (hM.callO (l := []) fun X S oL hS hR hO => ct_impl_Diff _ X S t s_t b s_b hS (hR _ (.tail _ (.tail _ (.head _)))) (hR _ (.head _)) oL h91) ?_
  rintro _ w92 ⟨s93, rfl, hM⟩
  replace hM : St ⟨w, X, S⟩ [oC (cSl 3 fDPart r90.1) s93.v, oC (cSl 3 fDPart r78.1) s81.v] [rV s_b.v (cSl 1 fI b), rV s_a.v (cSl 1 fI a), rV s_t.v (cSl 1 fI t)] _ := hM
  refine wv rfl (r_move rfl) ?_
  refine wv rfl (r_extract rfl rfl) ?_
  refine wv rfl (r_extract rfl rfl) ?_
  refine wv rfl (r_assign rfl) ?_
  refine wv rfl (r_assign rfl) ?_
  refine wl_nil ?_
  refine sq_n ?_
  refine wc_seq ?_
  refine wc_seq ?_
  refine wc_region ?_
  refine wv rfl (r_move rfl) ?_
  refine wv rfl (r_not rfl) ?_
  refine wv rfl (r_move rfl) ?_
  obtain ⟨c103, hx, hx107⟩ := bind_some' hx
  refine wl_mid 3 (fun _ : Unit => [(32, (.bool c103)), (0, s_t.v), (8, s81.v), (10, s93.v)]) (fun _ w' => St ⟨w, X, S⟩ [oC (cSl 3 fDPart r90.1) s93.v, oC (cSl 3 fDPart r78.1) s81.v] [rV s_b.v (cSl 1 fI b), rV s_a.v (cSl 1 fI a), rV s_t.v (cSl 1 fI t)] w') ?_ ?_
  · rcases Bool.eq_false_or_eq_true (!r78.2) with hg104 | hg104
    · replace hx := xif_t hg104 hx
      refine gs rfl (isB_no hg104) rfl ?_
      refine gs rfl (isB_no hg104) rfl ?_
      refine wv rfl (p_t rfl hg104 rfl) ?_
      obtain rfl := Option.some.inj hx
      exact mid_nil () ⟨rfl, rfl, rfl, rfl, trivial⟩ hM
    · replace hx := xif_f hg104 hx
      refine gv rfl hg104 rfl (r_move rfl) ?_
      refine gv rfl hg104 rfl (r_not rfl) ?_
      refine wv rfl (p_f rfl hg104 rfl) ?_
      obtain rfl := Option.some.inj hx
      exact mid_nil () ⟨rfl, rfl, rfl, rfl, trivial⟩ hM
  rintro _ w110 hM
  replace hx := hx107
  refine wl_nil ?_
  refine sq_n ?_
  refine wc_cond rfl (fun hc111 => ?_) (fun hc111 => ?_)
  · replace hx := xif_t hc111 hx
    refine wc_seq ?_
    refine wc_region ?_
    refine wv rfl (r_assign rfl) ?_
    refine wv rfl (r_assign rfl) ?_
    refine wl_nil ?_
    refine sq_n ?_
    refine wc_ret ?_
    refine sq_ret ?_
    obtain rfl := Option.some.inj hx
    have hM := hM.nil0 (T := Int) 1 fI
    refine fin_ret [nS.v, (.bool false)] ⟨rfl, rfl, trivial⟩ ?_
    replace hM := hM.t1
    have hM := hM.fewer rsN
    exact ⟨nS, rfl, hM.gives⟩
  · replace hx := xif_f hc111 hx
    refine wc_skip ?_
    refine sq_n ?_
    refine wc_seq ?_
    refine wc_region ?_
    refine wv rfl (r_move rfl) ?_
    refine wv rfl (r_move rfl) ?_
    obtain ⟨r117, h118, hx⟩ := bind_some' hx
    refine w_call rfl rfl (hM.callO (l := []) fun X S oL hS hR hO => ct_impl_Transform _ X S r78.1 s81 r90.1 s93 hS (seeA hO (.tail _ (.head _))) (seeA hO (.head _)) oL h118) ?_
    rintro _ w119 ⟨⟨s120, s121⟩, rfl, hM⟩
    replace hM : St ⟨w, X, S⟩ [oC (cSl 3 fDPart r117.1) s120.v, oC (cSl 3 fDPart r117.2.1) s121.v, oC (cSl 3 fDPart r90.1) s93.v, oC (cSl 3 fDPart r78.1) s81.v] [rV s_b.v (cSl 1 fI b), rV s_a.v (cSl 1 fI a), rV s_t.v (cSl 1 fI t)] _ := hM
    refine wv rfl (r_move rfl) ?_
    refine wv rfl (r_extract rfl rfl) ?_
    refine wv rfl (r_extract rfl rfl) ?_
    refine wv rfl (r_extract rfl rfl) ?_
    refine wv rfl (r_assign rfl) ?_
    refine wv rfl (r_assign rfl) ?_
    refine wv rfl (r_assign rfl) ?_
    refine wl_nil ?_
    refine sq_n ?_
    refine wc_seq ?_
    refine wc_seq ?_
    refine wc_region ?_
    refine wv rfl (r_move rfl) ?_
    refine wv rfl (r_not rfl) ?_
    refine wl_nil ?_
    refine sq_n ?_
    refine wc_cond rfl (fun hc133 => ?_) (fun hc133 => ?_)
    · replace hx := xif_t hc133 hx
      refine wc_seq ?_
      refine wc_region ?_
      refine wv rfl (r_assign rfl) ?_
      refine wv rfl (r_assign rfl) ?_
      refine wl_nil ?_
      refine sq_n ?_
      refine wc_ret ?_
      refine sq_ret ?_
      obtain rfl := Option.some.inj hx
      have hM := hM.nil0 (T := Int) 1 fI
      refine fin_ret [nS.v, (.bool false)] ⟨rfl, rfl, trivial⟩ ?_
      replace hM := hM.t1
      have hM := hM.fewer rsN
      exact ⟨nS, rfl, hM.gives⟩
    · replace hx := xif_f hc133 hx
      refine wc_skip ?_
      refine sq_n ?_
      refine wc_seq ?_
      refine wc_region ?_
      refine wv rfl (r_move rfl) ?_
      refine wv rfl (r_move rfl) ?_
      replace hM := hM.p1.p3
      refine w_ex rfl (x_lit (f := fLDPart) (own := [oC (cSl 3 fDPart r78.1) s81.v, oC (cSl 3 fDPart r117.2.1) s121.v]) [r78.1, r117.2.1] [s81.v, s121.v] 2 Try.underlying23 sz29 (fun _ => rfl) rfl rfl rfl rfl rfl (by kernel_rfl) (fun _ => zO (zO zN)) hM ?_); intro s140 w139 hR141 hM
      refine wv rfl (r_move rfl) ?_
      obtain ⟨r144, h145, hx⟩ := bind_some' hx
      refine w_call rfl rfl (hM.callO (l := []) fun X S oL hS hR hO => ct_impl_ApplyAll _ X S [r78.1, r117.2.1] s140 t s_t hS (seeA hO (.head _)) (hR _ (.tail _ (.tail _ (.head _)))) oL h145) ?_
      rintro _ w146 ⟨s147, rfl, hM⟩
      replace hM : St ⟨w, X, S⟩ [oC (cSl 1 fI r144.1) s147.v, oC (cSl 1 fLDPart [r78.1, r117.2.1]) s140.v, oC (cSl 3 fDPart r117.1) s120.v, oC (cSl 3 fDPart r90.1) s93.v] [rV s_b.v (cSl 1 fI b), rV s_a.v (cSl 1 fI a), rV s_t.v (cSl 1 fI t)] _ := hM
      refine wv rfl (r_extract rfl rfl) ?_
      refine wv rfl (r_extract rfl rfl) ?_
      refine wv rfl (r_assign rfl) ?_
      refine wv rfl (r_assign rfl) ?_
      refine wl_nil ?_
      refine sq_n ?_
      refine wc_ret ?_
      obtain rfl := Option.some.inj hx
      refine fin_ret [s147.v, (.bool r144.2)] ⟨rfl, rfl, trivial⟩ ?_
      replace hM := hM.t1
      have hM := hM.fewer rsN
      exact ⟨s147, rfl, hM.gives⟩

end Go.Proofs.Ythfkcpdechjmnaa
