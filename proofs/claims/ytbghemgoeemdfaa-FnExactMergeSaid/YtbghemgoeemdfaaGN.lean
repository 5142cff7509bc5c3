/- Walks of functions of this program (printed by a program of ours, by the rules of the layer). No condition. -/
import Derived.Test.YtbghemgoeemdfaaGD
import Derived.Test.YtbghemgoeemdfaaGU
import Derived.Test.YtbghemgoeemdfaaNr
namespace Go.Proofs.Ytbghemgoeemdfaa
open Go.RowKit

noncomputable def x_impl_ApplyAll_b0 (_l : List (List DPart)) (_k21 : Nat) (x79 : List DPart) (out22 : List Int) : Option (Lr (List Int) (Sum (List Int) Unit)) :=
  Option.bind (x_impl_Apply x79 out22) fun r61 => bif !r61.2 then (some (Lr.out (Sum.inr (())))) else (some (Lr.go r61.1))
noncomputable def x_impl_ApplyAll_f0 (l : List (List DPart)) (k21 : Nat) (s80 : List Int) : Option (Lr (List Int) (Sum (List Int) Unit)) := x_impl_ApplyAll_b0 l k21 (el l k21) s80
noncomputable def x_impl_ApplyAll (l : List (List DPart)) (t : List Int) : Option (List Int × Bool) :=
  Option.bind (x_impl_TextOk t) fun r4 => bif !r4 then (some ([], false)) else (Option.bind (x_impl_copyInts t) fun r12 => Option.bind (eachN (x_impl_ApplyAll_f0 l) (fun (s80 : List Int) => (Sum.inl s80 : Sum (List Int) Unit)) l.length 0 r12) fun (y81 : Sum (List Int) Unit) => Sum.elim (fun y82 => some (y82, true)) (fun _y83 => some ([], false)) y81)
theorem ct_impl_ApplyAll (w : World) (X S : Bs) (l : List (List DPart)) (s_l : Sv) (t : List Int) (s_t : Sv) (hS : ∀ b, S b → b < w.heap.size ∧ ¬ X b) (a_l_0 : (cSl 1 fLDPart l).rd S w s_l.v) (a_t_0 : (cSl 1 fI t).rd S w s_t.v) (oL : Sep [] X w) {r : List Int × Bool} (hx : x_impl_ApplyAll l t = some r) :
    Ret Try.prog 53 [s_l.v, s_t.v] w (fun u w' => ∃ y : Sv, u = .tuple #[y.v, (.bool r.2)] ∧ Gives X S w [oC (cSl 1 fI r.1) y.v] [] w') := by
  unfold x_impl_ApplyAll at hx
  refine enter Try.func53 rfl Try.ntmps53 (by kernel_rfl) rfl ?_
  have hM := St.enter oL hS
  have hM := hM.addE (r := rV s_l.v (cSl 1 fLDPart l)) a_l_0
  have hM := hM.addE (r := rV s_t.v (cSl 1 fI t)) a_t_0
  refine wc_seq ?_
  refine wc_region ?_
  refine wv rfl (r_assign rfl) ?_
  refine wv rfl (r_assign rfl) ?_
  refine wl_nil ?_
  refine sq_n ?_
  refine wc_seq ?_
  refine wc_seq ?_
  refine wc_region ?_
  refine wv rfl (r_move rfl) ?_
  obtain ⟨r92, h93, hx⟩ := bind_some' hx
  refine w_call rfl rfl (hM.callV fun X S oL hS hR hO => ct_impl_TextOk _ X S t s_t hS (hR _ (.head _)) oL h93) ?_
  rintro _ w94 ⟨rfl, hR95⟩
  have hM := hM.call hR95
  refine wv rfl (r_not rfl) ?_
  refine wl_nil ?_
  refine sq_n ?_
  refine wc_cond rfl (fun hc97 => ?_) (fun hc97 => ?_)
  · replace hx := xif_t hc97 hx
    refine wc_seq ?_
    refine wc_region ?_
    refine wv rfl (r_assign rfl) ?_
    refine wv rfl (r_assign rfl) ?_
    refine wl_nil ?_
    refine sq_n ?_
    refine wc_ret ?_
    refine sq_ret ?_
    obtain rfl := Option.some.inj hx
    have hM := hM.nil0 (T := Int) 1 fI
    refine fin_ret [nS.v, (.bool false)] ⟨rfl, rfl, trivial⟩ ?_
    replace hM := hM.t1
    have hM := hM.fewer rsN
    exact ⟨nS, rfl, hM.gives⟩
  · replace hx := xif_f hc97 hx
    refine wc_skip ?_
    refine sq_n ?_
    refine wc_seq ?_
    refine wc_region ?_
    refine wv rfl (r_move rfl) ?_
    obtain ⟨r102, h103, hx⟩ := bind_some' hx
    refine w_call rfl rfl (hM.callO (l := []) fun X S oL hS hR hO => ct_impl_copyInts _ X S t s_t hS (hR _ (.head _)) oL h103) ?_
    rintro _ w104 ⟨s105, rfl, hM⟩
    replace hM : St ⟨w, X, S⟩ [oC (cSl 1 fI r102) s105.v] [rV s_t.v (cSl 1 fI t), rV s_l.v (cSl 1 fLDPart l)] _ := hM
    refine wv rfl (r_assign rfl) ?_
    refine wl_nil ?_
    refine sq_n ?_
    refine wc_seq ?_
    refine wc_seq ?_
    refine wc_region ?_
    refine wv rfl (r_move rfl) ?_
    refine wv rfl (r_lenC Try.underlying34 rfl (hM.seeR (.tail _ (.head _)))) ?_
    refine wv rfl (r_move rfl) ?_
    refine wl_nil ?_
    refine sq_n ?_
    refine wc_block ?_
    obtain ⟨y111, hx, hx112⟩ := bind_some' hx
    have hM := hM.fewer (rsC (.tail _ (.head _)) rsN)
    replace hM : St ⟨w, X, S⟩ [oC (cSl 1 fI r102) s105.v] [rV s_l.v (cSl 1 fLDPart l)] _ := hM
    have hl119 := Cs.le (hM.seeR (.head _))
    refine wc_loop (un fun (m116 : Nat) => un fun (k117 : Nat) => un fun (out113 : List Int) => fun (s115 : Sv) => [(6, s115.v), (16, s_l.v), (17, (.int .i64 (l.length : Int))), (18, (.int .i64 (k117 : Int)))]) (un fun (m116 : Nat) => un fun (k117 : Nat) => un fun (out113 : List Int) => fun (s115 : Sv) w' => St ⟨w, X, S⟩ [oC (cSl 1 fI out113) s115.v] [rV s_l.v (cSl 1 fLDPart l)] w' ∧ eachN _ _ m116 k117 out113 = some y111 ∧ k117 + m116 = l.length) (fun p => p.1) (l.length, 0, r102, s105) ⟨rfl, rfl, rfl, rfl, trivial⟩ ⟨hM, hx, Nat.zero_add _⟩ ?_
    rintro ⟨m116, k117, out113, s115⟩ w120 ⟨hM, hx, hk118⟩
    refine wc_seq ?_
    refine wc_region ?_
    refine wv rfl (r_lss rfl rfl) ?_
    refine wl_nil ?_
    refine sq_n ?_
    refine wc_seq ?_
    refine wc_cond rfl (fun hc122 => ?_) (fun hc122 => ?_)
    · replace hc122 := of_decide_eq_true hc122
      obtain ⟨m123, z124, rfl, hk118, hx, hx125⟩ := eachN_step hx hk118 hc122
      unfold x_impl_ApplyAll_f0 x_impl_ApplyAll_b0 at hx
      try dsimp only at hx
      refine wc_skip ?_
      refine sq_n ?_
      refine wc_seq ?_
      refine wc_block ?_
      refine wc_seq ?_
      refine wc_region ?_
      have hi127 : k117 < l.length := by omega
      refine wv rfl (r_ixC Try.underlying34 sz31 rfl rfl (hM.seeR (.head _)) ⟨by omega, hc122⟩) ?_
      obtain ⟨s129, hM, hc130⟩ := hM.leaf (i := k117) (j := 0) (.head _) (fun _ => rfl) hi127 rfl
      refine wv rfl (r_ld Try.underlying31 rfl rfl (hc130 _ (Rel.refl _))) ?_
      refine wv rfl (r_assign rfl) ?_
      refine wl_nil ?_
      refine sq_n ?_
      refine wc_seq ?_
      refine wc_region ?_
      refine wv rfl (r_move rfl) ?_
      refine wv rfl (r_move rfl) ?_
      obtain ⟨r134, h135, hx⟩ := bind_some' hx
      refine w_call rfl rfl (hM.callO (l := []) fun X S oL hS hR hO => ct_impl_Apply _ X S (el l k117) s129 out113 s115 hS (hR _ (.head _)) (seeA hO (.head _)) oL h135) ?_
      rintro _ w136 ⟨s137, rfl, hM⟩
      replace hM : St ⟨w, X, S⟩ [oC (cSl 1 fI r134.1) s137.v, oC (cSl 1 fI out113) s115.v] [rV s129.v (cSl 3 fDPart (el l k117)), rV s_l.v (cSl 1 fLDPart l)] _ := hM
      refine wv rfl (r_move rfl) ?_
      refine wv rfl (r_extract rfl rfl) ?_
      refine wv rfl (r_extract rfl rfl) ?_
      refine wv rfl (r_assign rfl) ?_
      refine wv rfl (r_assign rfl) ?_
      refine wl_nil ?_
      refine sq_n ?_
      refine wc_seq ?_
      refine wc_seq ?_
      refine wc_region ?_
      refine wv rfl (r_move rfl) ?_
      refine wv rfl (r_not rfl) ?_
      refine wl_nil ?_
      refine sq_n ?_
      refine wc_cond rfl (fun hc146 => ?_) (fun hc146 => ?_)
      · replace hx := xif_t hc146 hx
        refine wc_seq ?_
        refine wc_region ?_
        refine wv rfl (r_assign rfl) ?_
        refine wv rfl (r_assign rfl) ?_
        refine wl_nil ?_
        refine sq_n ?_
        refine wc_ret ?_
        refine sq_ret ?_
        refine bk_ret ?_
        refine sq_ret ?_
        refine lp1_ret ?_
        obtain rfl := Option.some.inj hx
        obtain rfl := Option.some.inj hx125
        replace hx := hx112
        try dsimp only [Sum.elim_inl, Sum.elim_inr] at hx
        refine bk_ret ?_
        refine sq_ret ?_
        obtain rfl := Option.some.inj hx
        have hM := hM.nil0 (T := Int) 1 fI
        refine fin_ret [nS.v, (.bool false)] ⟨rfl, rfl, trivial⟩ ?_
        replace hM := hM.t1
        have hM := hM.fewer rsN
        exact ⟨nS, rfl, hM.gives⟩
      · replace hx := xif_f hc146 hx
        refine wc_skip ?_
        refine sq_n ?_
        refine wc_region ?_
        refine wv rfl (r_move rfl) ?_
        refine wv rfl (r_assign rfl) ?_
        refine wl_nil ?_
        refine bk_n ?_
        refine sq_n ?_
        refine wc_region ?_
        refine wv rfl (r_add rfl rfl ⟨by omega, by omega⟩) ?_
        refine wv rfl (r_move rfl) ?_
        refine wl_nil ?_
        obtain rfl := Option.some.inj hx
        replace hM := hM.t1
        have hM := hM.fewer (rsC (.tail _ (.head _)) rsN)
        replace hM : St ⟨w, X, S⟩ [oC (cSl 1 fI r134.1) s137.v] [rV s_l.v (cSl 1 fLDPart l)] _ := hM
        exact lp_end (m123, k117 + 1, r134.1, s137) (Nat.lt_succ_self _) ⟨rfl, rfl, rfl, rfl, trivial⟩ ⟨hM, hx125, hk118⟩
    · replace hc122 := of_decide_eq_false hc122
      obtain rfl := eachN_end hx hk118 hc122
      refine wc_exit ?_
      refine sq_exit ?_
      refine lp1_exit ?_
      replace hx := hx112
      try dsimp only [Sum.elim_inl, Sum.elim_inr] at hx
      refine bk_here ?_
      refine sq_n ?_
      refine wc_seq ?_
      refine wc_region ?_
      refine wv rfl (r_move rfl) ?_
      refine wv rfl (r_assign rfl) ?_
      refine wv rfl (r_assign rfl) ?_
      refine wl_nil ?_
      refine sq_n ?_
      refine wc_ret ?_
      obtain rfl := Option.some.inj hx
      refine fin_ret [s115.v, (.bool true)] ⟨rfl, rfl, trivial⟩ ?_
      replace hM := hM.t1
      have hM := hM.fewer rsN
      exact ⟨s115, rfl, hM.gives⟩

noncomputable def x_impl_Merge (t : List Int) (a : List Int) (b : List Int) : Option (List Int × Bool) :=
  Option.bind (x_impl_Diff t a) fun r5 => Option.bind (x_impl_Diff t b) fun r17 => Option.bind (bif !r5.2 then (some true) else (some (!r17.2))) fun c30 => bif c30 then (some ([], false)) else (Option.bind (x_impl_Transform r5.1 r17.1) fun r40 => bif !r40.2.2 then (some ([], false)) else (Option.bind (x_impl_ApplyAll [r5.1, r40.2.1] t) fun r65 => some (r65.1, r65.2)))
theorem ct_impl_Merge (w : World) (X S : Bs) (t : List Int) (s_t : Sv) (a : List Int) (s_a : Sv) (b : List Int) (s_b : Sv) (hS : ∀ b, S b → b < w.heap.size ∧ ¬ X b) (a_t_0 : (cSl 1 fI t).rd S w s_t.v) (a_a_0 : (cSl 1 fI a).rd S w s_a.v) (a_b_0 : (cSl 1 fI b).rd S w s_b.v) (oL : Sep [] X w) {r : List Int × Bool} (hx : x_impl_Merge t a b = some r) :
    Ret Try.prog 15 [s_t.v, s_a.v, s_b.v] w (fun u w' => ∃ y : Sv, u = .tuple #[y.v, (.bool r.2)] ∧ Gives X S w [oC (cSl 1 fI r.1) y.v] [] w') := by
  unfold x_impl_Merge at hx
  refine enter Try.func15 rfl Try.ntmps15 (by kernel_rfl) rfl ?_
  have hM := St.enter oL hS
  have hM := hM.addE (r := rV s_t.v (cSl 1 fI t)) a_t_0
  have hM := hM.addE (r := rV s_a.v (cSl 1 fI a)) a_a_0
  have hM := hM.addE (r := rV s_b.v (cSl 1 fI b)) a_b_0
  refine wc_seq ?_
  refine wc_region ?_
  refine wv rfl (r_assign rfl) ?_
  refine wv rfl (r_assign rfl) ?_
  refine wl_nil ?_
  refine sq_n ?_
  refine wc_seq ?_
  refine wc_region ?_
  refine wv rfl (r_move rfl) ?_
  refine wv rfl (r_move rfl) ?_
  obtain ⟨r78, h79, hx⟩ := bind_some' hx
  refine w_call rfl rfl (hM.callO (l := []) fun X S oL hS hR hO => ct_impl_Diff _ X S t s_t a s_a hS (hR _ (.tail _ (.tail _ (.head _)))) (hR _ (.tail _ (.head _))) oL h79) ?_
  rintro _ w80 ⟨s81, rfl, hM⟩
  replace hM : St ⟨w, X, S⟩ [oC (cSl 3 fDPart r78.1) s81.v] [rV s_b.v (cSl 1 fI b), rV s_a.v (cSl 1 fI a), rV s_t.v (cSl 1 fI t)] _ := hM
  refine wv rfl (r_move rfl) ?_
  refine wv rfl (r_extract rfl rfl) ?_
  refine wv rfl (r_extract rfl rfl) ?_
  refine wv rfl (r_assign rfl) ?_
  refine wv rfl (r_assign rfl) ?_
  refine wl_nil ?_
  refine sq_n ?_
  refine wc_seq ?_
  refine wc_region ?_
  refine wv rfl (r_move rfl) ?_
  refine wv rfl (r_move rfl) ?_
  obtain ⟨r90, h91, hx⟩ := bind_some' hx
  refine w_call rfl rfl (hM.callO (l := []) fun X S oL hS hR hO => ct_impl_Diff _ X S t s_t b s_b hS (hR _ (.tail _ (.tail _ (.head _)))) (hR _ (.head _)) oL h91) ?_
  rintro _ w92 ⟨s93, rfl, hM⟩
  replace hM : St ⟨w, X, S⟩ [oC (cSl 3 fDPart r90.1) s93.v, oC (cSl 3 fDPart r78.1) s81.v] [rV s_b.v (cSl 1 fI b), rV s_a.v (cSl 1 fI a), rV s_t.v (cSl 1 fI t)] _ := hM
  refine wv rfl (r_move rfl) ?_
  refine wv rfl (r_extract rfl rfl) ?_
  refine wv rfl (r_extract rfl rfl) ?_
  refine wv rfl (r_assign rfl) ?_
  refine wv rfl (r_assign rfl) ?_
  refine wl_nil ?_
  refine sq_n ?_
  refine wc_seq ?_
  refine wc_seq ?_
  refine wc_region ?_
  refine wv rfl (r_move rfl) ?_
  refine wv rfl (r_not rfl) ?_
  refine wv rfl (r_move rfl) ?_
  obtain ⟨c103, hx, hx107⟩ := bind_some' hx
  refine wl_mid 3 (fun _ : Unit => [(32, (.bool c103)), (0, s_t.v), (8, s81.v), (10, s93.v)]) (fun _ w' => St ⟨w, X, S⟩ [oC (cSl 3 fDPart r90.1) s93.v, oC (cSl 3 fDPart r78.1) s81.v] [rV s_b.v (cSl 1 fI b), rV s_a.v (cSl 1 fI a), rV s_t.v (cSl 1 fI t)] w') ?_ ?_
  · rcases Bool.eq_false_or_eq_true (!r78.2) with hg104 | hg104
    · replace hx := xif_t hg104 hx
      refine gs rfl (isB_no hg104) rfl ?_
      refine gs rfl (isB_no hg104) rfl ?_
      refine wv rfl (p_t rfl hg104 rfl) ?_
      obtain rfl := Option.some.inj hx
      exact mid_nil () ⟨rfl, rfl, rfl, rfl, trivial⟩ hM
    · replace hx := xif_f hg104 hx
      refine gv rfl hg104 rfl (r_move rfl) ?_
      refine gv rfl hg104 rfl (r_not rfl) ?_
      refine wv rfl (p_f rfl hg104 rfl) ?_
      obtain rfl := Option.some.inj hx
      exact mid_nil () ⟨rfl, rfl, rfl, rfl, trivial⟩ hM
  rintro _ w110 hM
  replace hx := hx107
  refine wl_nil ?_
  refine sq_n ?_
  refine wc_cond rfl (fun hc111 => ?_) (fun hc111 => ?_)
  · replace hx := xif_t hc111 hx
    refine wc_seq ?_
    refine wc_region ?_
    refine wv rfl (r_assign rfl) ?_
    refine wv rfl (r_assign rfl) ?_
    refine wl_nil ?_
    refine sq_n ?_
    refine wc_ret ?_
    refine sq_ret ?_
    obtain rfl := Option.some.inj hx
    have hM := hM.nil0 (T := Int) 1 fI
    refine fin_ret [nS.v, (.bool false)] ⟨rfl, rfl, trivial⟩ ?_
    replace hM := hM.t1
    have hM := hM.fewer rsN
    exact ⟨nS, rfl, hM.gives⟩
  · replace hx := xif_f hc111 hx
    refine wc_skip ?_
    refine sq_n ?_
    refine wc_seq ?_
    refine wc_region ?_
    refine wv rfl (r_move rfl) ?_
    refine wv rfl (r_move rfl) ?_
    obtain ⟨r117, h118, hx⟩ := bind_some' hx
    refine w_call rfl rfl (hM.callO (l := []) fun X S oL hS hR hO => ct_impl_Transform _ X S r78.1 s81 r90.1 s93 hS (seeA hO (.tail _ (.head _))) (seeA hO (.head _)) oL h118) ?_
    rintro _ w119 ⟨⟨s120, s121⟩, rfl, hM⟩
    replace hM : St ⟨w, X, S⟩ [oC (cSl 3 fDPart r117.1) s120.v, oC (cSl 3 fDPart r117.2.1) s121.v, oC (cSl 3 fDPart r90.1) s93.v, oC (cSl 3 fDPart r78.1) s81.v] [rV s_b.v (cSl 1 fI b), rV s_a.v (cSl 1 fI a), rV s_t.v (cSl 1 fI t)] _ := hM
    refine wv rfl (r_move rfl) ?_
    refine wv rfl (r_extract rfl rfl) ?_
    refine wv rfl (r_extract rfl rfl) ?_
    refine wv rfl (r_extract rfl rfl) ?_
    refine wv rfl (r_assign rfl) ?_
    refine wv rfl (r_assign rfl) ?_
    refine wv rfl (r_assign rfl) ?_
    refine wl_nil ?_
    refine sq_n ?_
    refine wc_seq ?_
    refine wc_seq ?_
    refine wc_region ?_
    refine wv rfl (r_move rfl) ?_
    refine wv rfl (r_not rfl) ?_
    refine wl_nil ?_
    refine sq_n ?_
    refine wc_cond rfl (fun hc133 => ?_) (fun hc133 => ?_)
    · replace hx := xif_t hc133 hx
      refine wc_seq ?_
      refine wc_region ?_
      refine wv rfl (r_assign rfl) ?_
      refine wv rfl (r_assign rfl) ?_
      refine wl_nil ?_
      refine sq_n ?_
      refine wc_ret ?_
      refine sq_ret ?_
      obtain rfl := Option.some.inj hx
      have hM := hM.nil0 (T := Int) 1 fI
      refine fin_ret [nS.v, (.bool false)] ⟨rfl, rfl, trivial⟩ ?_
      replace hM := hM.t1
      have hM := hM.fewer rsN
      exact ⟨nS, rfl, hM.gives⟩
    · replace hx := xif_f hc133 hx
      refine wc_skip ?_
      refine sq_n ?_
      refine wc_seq ?_
      refine wc_region ?_
      refine wv rfl (r_move rfl) ?_
      refine wv rfl (r_move rfl) ?_
      replace hM := hM.p1.p3
      refine w_ex rfl (x_lit (f := fLDPart) (own := [oC (cSl 3 fDPart r78.1) s81.v, oC (cSl 3 fDPart r117.2.1) s121.v]) [r78.1, r117.2.1] [s81.v, s121.v] 2 Try.underlying34 sz31 (fun _ => rfl) rfl rfl rfl rfl rfl (by kernel_rfl) (fun _ => zO (zO zN)) hM ?_); intro s140 w139 hR141 hM
      refine wv rfl (r_move rfl) ?_
      obtain ⟨r144, h145, hx⟩ := bind_some' hx
      refine w_call rfl rfl (hM.callO (l := []) fun X S oL hS hR hO => ct_impl_ApplyAll _ X S [r78.1, r117.2.1] s140 t s_t hS (seeA hO (.head _)) (hR _ (.tail _ (.tail _ (.head _)))) oL h145) ?_
      rintro _ w146 ⟨s147, rfl, hM⟩
      replace hM : St ⟨w, X, S⟩ [oC (cSl 1 fI r144.1) s147.v, oC (cSl 1 fLDPart [r78.1, r117.2.1]) s140.v, oC (cSl 3 fDPart r117.1) s120.v, oC (cSl 3 fDPart r90.1) s93.v] [rV s_b.v (cSl 1 fI b), rV s_a.v (cSl 1 fI a), rV s_t.v (cSl 1 fI t)] _ := hM
      refine wv rfl (r_extract rfl rfl) ?_
      refine wv rfl (r_extract rfl rfl) ?_
      refine wv rfl (r_assign rfl) ?_
      refine wv rfl (r_assign rfl) ?_
      refine wl_nil ?_
      refine sq_n ?_
      refine wc_ret ?_
      obtain rfl := Option.some.inj hx
      refine fin_ret [s147.v, (.bool r144.2)] ⟨rfl, rfl, trivial⟩ ?_
      replace hM := hM.t1
      have hM := hM.fewer rsN
      exact ⟨s147, rfl, hM.gives⟩

noncomputable def x_spec_ApplyAll_b0 (_l : List (List DPart)) (_k16 : Nat) (x74 : List DPart) (out17 : List Int) : Option (Lr (List Int) (Sum (List Int) Unit)) :=
  Option.bind (x_spec_Apply x74 out17) fun r56 => bif !r56.2 then (some (Lr.out (Sum.inr (())))) else (some (Lr.go r56.1))
noncomputable def x_spec_ApplyAll_f0 (l : List (List DPart)) (k16 : Nat) (s75 : List Int) : Option (Lr (List Int) (Sum (List Int) Unit)) := x_spec_ApplyAll_b0 l k16 (el l k16) s75
noncomputable def x_spec_ApplyAll (l : List (List DPart)) (t : List Int) : Option (List Int × Bool) :=
  xg (0 + t.length ≤ 1099511627776) <| Option.bind (eachN (x_spec_ApplyAll_f0 l) (fun (s75 : List Int) => (Sum.inl s75 : Sum (List Int) Unit)) l.length 0 ([] ++ t)) fun (y76 : Sum (List Int) Unit) => Sum.elim (fun y77 => Option.bind (x_spec_TextOk t) fun r82 => bif !r82 then (some ([], false)) else (some (y77, true))) (fun _y78 => some ([], false)) y76
theorem ct_spec_ApplyAll (w : World) (X S : Bs) (l : List (List DPart)) (s_l : Sv) (t : List Int) (s_t : Sv) (hS : ∀ b, S b → b < w.heap.size ∧ ¬ X b) (a_l_0 : (cSl 1 fLDPart l).rd S w s_l.v) (a_t_0 : (cSl 1 fI t).rd S w s_t.v) (oL : Sep [] X w) {r : List Int × Bool} (hx : x_spec_ApplyAll l t = some r) :
    Ret Try.prog 68 [s_l.v, s_t.v] w (fun u w' => ∃ y : Sv, u = .tuple #[y.v, (.bool r.2)] ∧ Gives X S w [oC (cSl 1 fI r.1) y.v] [] w') := by
  unfold x_spec_ApplyAll at hx
  refine enter Try.func68 rfl Try.ntmps68 (by kernel_rfl) rfl ?_
  have hM := St.enter oL hS
  have hM := hM.addE (r := rV s_l.v (cSl 1 fLDPart l)) a_l_0
  have hM := hM.addE (r := rV s_t.v (cSl 1 fI t)) a_t_0
  refine wc_seq ?_
  refine wc_region ?_
  refine wv rfl (r_assign rfl) ?_
  refine wv rfl (r_assign rfl) ?_
  refine wl_nil ?_
  refine sq_n ?_
  refine wc_seq ?_
  refine wc_region ?_
  refine w_ex rfl (x_empty (f := fI) Try.underlying22 sz3 (fun _ => rfl) hM ?_); intro s95 w94 hR96 hM
  refine wv rfl (r_move rfl) ?_
  obtain ⟨hg101, hx⟩ := xg_some hx
  refine w_ex rfl (x_append Try.underlying22 sz3 rfl rfl (hM.seeR (.head _)) flI hM hg101 rfl ?_); intro s100 w99 hM
  refine wv rfl (r_assign rfl) ?_
  refine wl_nil ?_
  refine sq_n ?_
  refine wc_seq ?_
  refine wc_seq ?_
  refine wc_region ?_
  refine wv rfl (r_move rfl) ?_
  refine wv rfl (r_lenC Try.underlying34 rfl (hM.seeR (.tail _ (.head _)))) ?_
  refine wv rfl (r_move rfl) ?_
  refine wl_nil ?_
  refine sq_n ?_
  refine wc_block ?_
  obtain ⟨y107, hx, hx108⟩ := bind_some' hx
  have hl115 := Cs.le (hM.seeR (.tail _ (.head _)))
  refine wc_loop (un fun (m112 : Nat) => un fun (k113 : Nat) => un fun (out109 : List Int) => fun (s111 : Sv) => [(1, s_t.v), (6, s111.v), (14, s_l.v), (15, (.int .i64 (l.length : Int))), (16, (.int .i64 (k113 : Int)))]) (un fun (m112 : Nat) => un fun (k113 : Nat) => un fun (out109 : List Int) => fun (s111 : Sv) w' => St ⟨w, X, S⟩ [oC (cSl 1 fI out109) s111.v] [rV s_t.v (cSl 1 fI t), rV s_l.v (cSl 1 fLDPart l)] w' ∧ eachN _ _ m112 k113 out109 = some y107 ∧ k113 + m112 = l.length) (fun p => p.1) (l.length, 0, [] ++ t, s100) ⟨rfl, rfl, rfl, rfl, rfl, trivial⟩ ⟨hM, hx, Nat.zero_add _⟩ ?_
  rintro ⟨m112, k113, out109, s111⟩ w116 ⟨hM, hx, hk114⟩
  refine wc_seq ?_
  refine wc_region ?_
  refine wv rfl (r_lss rfl rfl) ?_
  refine wl_nil ?_
  refine sq_n ?_
  refine wc_seq ?_
  refine wc_cond rfl (fun hc118 => ?_) (fun hc118 => ?_)
  · replace hc118 := of_decide_eq_true hc118
    obtain ⟨m119, z120, rfl, hk114, hx, hx121⟩ := eachN_step hx hk114 hc118
    unfold x_spec_ApplyAll_f0 x_spec_ApplyAll_b0 at hx
    try dsimp only at hx
    refine wc_skip ?_
    refine sq_n ?_
    refine wc_seq ?_
    refine wc_block ?_
    refine wc_seq ?_
    refine wc_region ?_
    have hi123 : k113 < l.length := by omega
    refine wv rfl (r_ixC Try.underlying34 sz31 rfl rfl (hM.seeR (.tail _ (.head _))) ⟨by omega, hc118⟩) ?_
    obtain ⟨s125, hM, hc126⟩ := hM.leaf (i := k113) (j := 0) (.tail _ (.head _)) (fun _ => rfl) hi123 rfl
    refine wv rfl (r_ld Try.underlying31 rfl rfl (hc126 _ (Rel.refl _))) ?_
    refine wv rfl (r_assign rfl) ?_
    refine wl_nil ?_
    refine sq_n ?_
    refine wc_seq ?_
    refine wc_region ?_
    refine wv rfl (r_move rfl) ?_
    refine wv rfl (r_move rfl) ?_
    obtain ⟨r130, h131, hx⟩ := bind_some' hx
    refine w_call rfl rfl (hM.callO (l := []) fun X S oL hS hR hO => ct_spec_Apply _ X S (el l k113) s125 out109 s111 hS (hR _ (.head _)) (seeA hO (.head _)) oL h131) ?_
    rintro _ w132 ⟨s133, rfl, hM⟩
    replace hM : St ⟨w, X, S⟩ [oC (cSl 1 fI r130.1) s133.v, oC (cSl 1 fI out109) s111.v] [rV s125.v (cSl 3 fDPart (el l k113)), rV s_t.v (cSl 1 fI t), rV s_l.v (cSl 1 fLDPart l)] _ := hM
    refine wv rfl (r_move rfl) ?_
    refine wv rfl (r_extract rfl rfl) ?_
    refine wv rfl (r_extract rfl rfl) ?_
    refine wv rfl (r_assign rfl) ?_
    refine wv rfl (r_assign rfl) ?_
    refine wl_nil ?_
    refine sq_n ?_
    refine wc_seq ?_
    refine wc_seq ?_
    refine wc_region ?_
    refine wv rfl (r_move rfl) ?_
    refine wv rfl (r_not rfl) ?_
    refine wl_nil ?_
    refine sq_n ?_
    refine wc_cond rfl (fun hc142 => ?_) (fun hc142 => ?_)
    · replace hx := xif_t hc142 hx
      refine wc_seq ?_
      refine wc_region ?_
      refine wv rfl (r_assign rfl) ?_
      refine wv rfl (r_assign rfl) ?_
      refine wl_nil ?_
      refine sq_n ?_
      refine wc_ret ?_
      refine sq_ret ?_
      refine bk_ret ?_
      refine sq_ret ?_
      refine lp1_ret ?_
      obtain rfl := Option.some.inj hx
      obtain rfl := Option.some.inj hx121
      replace hx := hx108
      try dsimp only [Sum.elim_inl, Sum.elim_inr] at hx
      refine bk_ret ?_
      refine sq_ret ?_
      obtain rfl := Option.some.inj hx
      have hM := hM.nil0 (T := Int) 1 fI
      refine fin_ret [nS.v, (.bool false)] ⟨rfl, rfl, trivial⟩ ?_
      replace hM := hM.t1
      have hM := hM.fewer rsN
      exact ⟨nS, rfl, hM.gives⟩
    · replace hx := xif_f hc142 hx
      refine wc_skip ?_
      refine sq_n ?_
      refine wc_region ?_
      refine wv rfl (r_move rfl) ?_
      refine wv rfl (r_assign rfl) ?_
      refine wl_nil ?_
      refine bk_n ?_
      refine sq_n ?_
      refine wc_region ?_
      refine wv rfl (r_add rfl rfl ⟨by omega, by omega⟩) ?_
      refine wv rfl (r_move rfl) ?_
      refine wl_nil ?_
      obtain rfl := Option.some.inj hx
      replace hM := hM.t1
      have hM := hM.fewer (rsC (.tail _ (.head _)) (rsC (.tail _ (.tail _ (.head _))) rsN))
      replace hM : St ⟨w, X, S⟩ [oC (cSl 1 fI r130.1) s133.v] [rV s_t.v (cSl 1 fI t), rV s_l.v (cSl 1 fLDPart l)] _ := hM
      exact lp_end (m119, k113 + 1, r130.1, s133) (Nat.lt_succ_self _) ⟨rfl, rfl, rfl, rfl, rfl, trivial⟩ ⟨hM, hx121, hk114⟩
  · replace hc118 := of_decide_eq_false hc118
    obtain rfl := eachN_end hx hk114 hc118
    refine wc_exit ?_
    refine sq_exit ?_
    refine lp1_exit ?_
    replace hx := hx108
    try dsimp only [Sum.elim_inl, Sum.elim_inr] at hx
    refine bk_here ?_
    refine sq_n ?_
    refine wc_seq ?_
    refine wc_seq ?_
    refine wc_region ?_
    refine wv rfl (r_move rfl) ?_
    obtain ⟨r151, h152, hx⟩ := bind_some' hx
    refine w_call rfl rfl (hM.callV fun X S oL hS hR hO => ct_spec_TextOk _ X S t s_t hS (hR _ (.head _)) oL h152) ?_
    rintro _ w153 ⟨rfl, hR154⟩
    have hM := hM.call hR154
    refine wv rfl (r_not rfl) ?_
    refine wl_nil ?_
    refine sq_n ?_
    refine wc_cond rfl (fun hc156 => ?_) (fun hc156 => ?_)
    · replace hx := xif_t hc156 hx
      refine wc_seq ?_
      refine wc_region ?_
      refine wv rfl (r_assign rfl) ?_
      refine wv rfl (r_assign rfl) ?_
      refine wl_nil ?_
      refine sq_n ?_
      refine wc_ret ?_
      refine sq_ret ?_
      obtain rfl := Option.some.inj hx
      have hM := hM.nil0 (T := Int) 1 fI
      refine fin_ret [nS.v, (.bool false)] ⟨rfl, rfl, trivial⟩ ?_
      replace hM := hM.t1
      have hM := hM.fewer rsN
      exact ⟨nS, rfl, hM.gives⟩
    · replace hx := xif_f hc156 hx
      refine wc_skip ?_
      refine sq_n ?_
      refine wc_seq ?_
      refine wc_region ?_
      refine wv rfl (r_move rfl) ?_
      refine wv rfl (r_assign rfl) ?_
      refine wv rfl (r_assign rfl) ?_
      refine wl_nil ?_
      refine sq_n ?_
      refine wc_ret ?_
      obtain rfl := Option.some.inj hx
      refine fin_ret [s111.v, (.bool true)] ⟨rfl, rfl, trivial⟩ ?_
      replace hM := hM.t1
      have hM := hM.fewer rsN
      exact ⟨s111, rfl, hM.gives⟩

noncomputable def x_spec_Merge (t : List Int) (a : List Int) (b : List Int) : Option (List Int × Bool) :=
  Option.bind (x_spec_Diff t a) fun r5 => Option.bind (x_spec_Diff t b) fun r17 => Option.bind (x_spec_Transform r5.1 r17.1) fun r29 => Option.bind (bif !r5.2 then (some true) else (some (!r17.2))) fun c46 => Option.bind (bif c46 then (some true) else (some (!r29.2.2))) fun c53 => bif c53 then (some ([], false)) else (Option.bind (x_spec_ApplyAll [r5.1, r29.2.1] t) fun r68 => some (r68.1, r68.2))
theorem ct_spec_Merge (w : World) (X S : Bs) (t : List Int) (s_t : Sv) (a : List Int) (s_a : Sv) (b : List Int) (s_b : Sv) (hS : ∀ b, S b → b < w.heap.size ∧ ¬ X b) (a_t_0 : (cSl 1 fI t).rd S w s_t.v) (a_a_0 : (cSl 1 fI a).rd S w s_a.v) (a_b_0 : (cSl 1 fI b).rd S w s_b.v) (oL : Sep [] X w) {r : List Int × Bool} (hx : x_spec_Merge t a b = some r) :
    Ret Try.prog 13 [s_t.v, s_a.v, s_b.v] w (fun u w' => ∃ y : Sv, u = .tuple #[y.v, (.bool r.2)] ∧ Gives X S w [oC (cSl 1 fI r.1) y.v] [] w') := by
  unfold x_spec_Merge at hx
  refine enter Try.func13 rfl Try.ntmps13 (by kernel_rfl) rfl ?_
  have hM := St.enter oL hS
  have hM := hM.addE (r := rV s_t.v (cSl 1 fI t)) a_t_0
  have hM := hM.addE (r := rV s_a.v (cSl 1 fI a)) a_a_0
  have hM := hM.addE (r := rV s_b.v (cSl 1 fI b)) a_b_0
  refine wc_seq ?_
  refine wc_region ?_
  refine wv rfl (r_assign rfl) ?_
  refine wv rfl (r_assign rfl) ?_
  refine wl_nil ?_
  refine sq_n ?_
  refine wc_seq ?_
  refine wc_region ?_
  refine wv rfl (r_move rfl) ?_
  refine wv rfl (r_move rfl) ?_
  obtain ⟨r81, h82, hx⟩ := bind_some' hx
  refine w_call rfl rfl (hM.callO (l := []) fun X S oL hS hR hO => ct_spec_Diff _ X S t s_t a s_a hS (hR _ (.tail _ (.tail _ (.head _)))) (hR _ (.tail _ (.head _))) oL h82) ?_
  rintro _ w83 ⟨s84, rfl, hM⟩
  replace hM : St ⟨w, X, S⟩ [oC (cSl 3 fDPart r81.1) s84.v] [rV s_b.v (cSl 1 fI b), rV s_a.v (cSl 1 fI a), rV s_t.v (cSl 1 fI t)] _ := hM
  refine wv rfl (r_move rfl) ?_
  refine wv rfl (r_extract rfl rfl) ?_
  refine wv rfl (r_extract rfl rfl) ?_
  refine wv rfl (r_assign rfl) ?_
  refine wv rfl (r_assign rfl) ?_
  refine wl_nil ?_
  refine sq_n ?_
  refine wc_seq ?_
  refine wc_region ?_
  refine wv rfl (r_move rfl) ?_
  refine wv rfl (r_move rfl) ?_
  obtain ⟨r93, h94, hx⟩ := bind_some' hx
  refine w_call rfl rfl (hM.callO (l := []) fun X S oL hS hR hO => ct_spec_Diff _ X S t s_t b s_b hS (hR _ (.tail _ (.tail _ (.head _)))) (hR _ (.head _)) oL h94) ?_
  rintro _ w95 ⟨s96, rfl, hM⟩
  replace hM : St ⟨w, X, S⟩ [oC (cSl 3 fDPart r93.1) s96.v, oC (cSl 3 fDPart r81.1) s84.v] [rV s_b.v (cSl 1 fI b), rV s_a.v (cSl 1 fI a), rV s_t.v (cSl 1 fI t)] _ := hM
  refine wv rfl (r_move rfl) ?_
  refine wv rfl (r_extract rfl rfl) ?_
  refine wv rfl (r_extract rfl rfl) ?_
  refine wv rfl (r_assign rfl) ?_
  refine wv rfl (r_assign rfl) ?_
  refine wl_nil ?_
  refine sq_n ?_
  refine wc_seq ?_
  refine wc_region ?_
  refine wv rfl (r_move rfl) ?_
  refine wv rfl (r_move rfl) ?_
  obtain ⟨r105, h106, hx⟩ := bind_some' hx
  refine w_call rfl rfl (hM.callO (l := []) fun X S oL hS hR hO => ct_spec_Transform _ X S r81.1 s84 r93.1 s96 hS (seeA hO (.tail _ (.head _))) (seeA hO (.head _)) oL h106) ?_
  rintro _ w107 ⟨⟨s108, s109⟩, rfl, hM⟩
  replace hM : St ⟨w, X, S⟩ [oC (cSl 3 fDPart r105.1) s108.v, oC (cSl 3 fDPart r105.2.1) s109.v, oC (cSl 3 fDPart r93.1) s96.v, oC (cSl 3 fDPart r81.1) s84.v] [rV s_b.v (cSl 1 fI b), rV s_a.v (cSl 1 fI a), rV s_t.v (cSl 1 fI t)] _ := hM
  refine wv rfl (r_move rfl) ?_
  refine wv rfl (r_extract rfl rfl) ?_
  refine wv rfl (r_extract rfl rfl) ?_
  refine wv rfl (r_extract rfl rfl) ?_
  refine wv rfl (r_assign rfl) ?_
  refine wv rfl (r_assign rfl) ?_
  refine wv rfl (r_assign rfl) ?_
  refine wl_nil ?_
  refine sq_n ?_
  refine wc_seq ?_
  refine wc_seq ?_
  refine wc_region ?_
  refine wv rfl (r_move rfl) ?_
  refine wv rfl (r_not rfl) ?_
  refine wv rfl (r_move rfl) ?_
  obtain ⟨c122, hx, hx126⟩ := bind_some' hx
  refine wl_mid 3 (fun _ : Unit => [(39, (.bool c122)), (0, s_t.v), (8, s84.v), (13, s109.v), (14, (.bool r105.2.2))]) (fun _ w' => St ⟨w, X, S⟩ [oC (cSl 3 fDPart r105.1) s108.v, oC (cSl 3 fDPart r105.2.1) s109.v, oC (cSl 3 fDPart r93.1) s96.v, oC (cSl 3 fDPart r81.1) s84.v] [rV s_b.v (cSl 1 fI b), rV s_a.v (cSl 1 fI a), rV s_t.v (cSl 1 fI t)] w') ?_ ?_
  · rcases Bool.eq_false_or_eq_true (!r81.2) with hg123 | hg123
    · replace hx := xif_t hg123 hx
      refine gs rfl (isB_no hg123) rfl ?_
      refine gs rfl (isB_no hg123) rfl ?_
      refine wv rfl (p_t rfl hg123 rfl) ?_
      obtain rfl := Option.some.inj hx
      exact mid_nil () ⟨rfl, rfl, rfl, rfl, rfl, trivial⟩ hM
    · replace hx := xif_f hg123 hx
      refine gv rfl hg123 rfl (r_move rfl) ?_
      refine gv rfl hg123 rfl (r_not rfl) ?_
      refine wv rfl (p_f rfl hg123 rfl) ?_
      obtain rfl := Option.some.inj hx
      exact mid_nil () ⟨rfl, rfl, rfl, rfl, rfl, trivial⟩ hM
  rintro _ w129 hM
  replace hx := hx126
  refine wv rfl (r_move rfl) ?_
  obtain ⟨c131, hx, hx135⟩ := bind_some' hx
  refine wl_mid 3 (fun _ : Unit => [(43, (.bool c131)), (0, s_t.v), (8, s84.v), (13, s109.v)]) (fun _ w' => St ⟨w, X, S⟩ [oC (cSl 3 fDPart r105.1) s108.v, oC (cSl 3 fDPart r105.2.1) s109.v, oC (cSl 3 fDPart r93.1) s96.v, oC (cSl 3 fDPart r81.1) s84.v] [rV s_b.v (cSl 1 fI b), rV s_a.v (cSl 1 fI a), rV s_t.v (cSl 1 fI t)] w') ?_ ?_
  · rcases Bool.eq_false_or_eq_true c122 with hg132 | hg132
    · replace hx := xif_t hg132 hx
      refine gs rfl (isB_no hg132) rfl ?_
      refine gs rfl (isB_no hg132) rfl ?_
      refine wv rfl (p_t rfl hg132 rfl) ?_
      obtain rfl := Option.some.inj hx
      exact mid_nil () ⟨rfl, rfl, rfl, rfl, trivial⟩ hM
    · replace hx := xif_f hg132 hx
      refine gv rfl hg132 rfl (r_move rfl) ?_
      refine gv rfl hg132 rfl (r_not rfl) ?_
      refine wv rfl (p_f rfl hg132 rfl) ?_
      obtain rfl := Option.some.inj hx
      exact mid_nil () ⟨rfl, rfl, rfl, rfl, trivial⟩ hM
  rintro _ w138 hM
  replace hx := hx135
  refine wl_nil ?_
  refine sq_n ?_
  refine wc_cond rfl (fun hc139 => ?_) (fun hc139 => ?_)
  · replace hx := xif_t hc139 hx
    refine wc_seq ?_
    refine wc_region ?_
    refine wv rfl (r_assign rfl) ?_
    refine wv rfl (r_assign rfl) ?_
    refine wl_nil ?_
    refine sq_n ?_
    refine wc_ret ?_
    refine sq_ret ?_
    obtain rfl := Option.some.inj hx
    have hM := hM.nil0 (T := Int) 1 fI
    refine fin_ret [nS.v, (.bool false)] ⟨rfl, rfl, trivial⟩ ?_
    replace hM := hM.t1
    have hM := hM.fewer rsN
    exact ⟨nS, rfl, hM.gives⟩
  · replace hx := xif_f hc139 hx
    refine wc_skip ?_
    refine sq_n ?_
    refine wc_seq ?_
    refine wc_region ?_
    refine wv rfl (r_move rfl) ?_
    refine wv rfl (r_move rfl) ?_
    replace hM := hM.p1.p3
    refine w_ex rfl (x_lit (f := fLDPart) (own := [oC (cSl 3 fDPart r81.1) s84.v, oC (cSl 3 fDPart r105.2.1) s109.v]) [r81.1, r105.2.1] [s84.v, s109.v] 2 Try.underlying34 sz31 (fun _ => rfl) rfl rfl rfl rfl rfl (by kernel_rfl) (fun _ => zO (zO zN)) hM ?_); intro s146 w145 hR147 hM
    refine wv rfl (r_move rfl) ?_
    obtain ⟨r150, h151, hx⟩ := bind_some' hx
    refine w_call rfl rfl (hM.callO (l := []) fun X S oL hS hR hO => ct_spec_ApplyAll _ X S [r81.1, r105.2.1] s146 t s_t hS (seeA hO (.head _)) (hR _ (.tail _ (.tail _ (.head _)))) oL h151) ?_
    rintro _ w152 ⟨s153, rfl, hM⟩
    replace hM : St ⟨w, X, S⟩ [oC (cSl 1 fI r150.1) s153.v, oC (cSl 1 fLDPart [r81.1, r105.2.1]) s146.v, oC (cSl 3 fDPart r105.1) s108.v, oC (cSl 3 fDPart r93.1) s96.v] [rV s_b.v (cSl 1 fI b), rV s_a.v (cSl 1 fI a), rV s_t.v (cSl 1 fI t)] _ := hM
    refine wv rfl (r_extract rfl rfl) ?_
    refine wv rfl (r_extract rfl rfl) ?_
    refine wv rfl (r_assign rfl) ?_
    refine wv rfl (r_assign rfl) ?_
    refine wl_nil ?_
    refine sq_n ?_
    refine wc_ret ?_
    obtain rfl := Option.some.inj hx
    refine fin_ret [s153.v, (.bool r150.2)] ⟨rfl, rfl, trivial⟩ ?_
    replace hM := hM.t1
    have hM := hM.fewer rsN
    exact ⟨s153, rfl, hM.gives⟩

end Go.Proofs.Ytbghemgoeemdfaa
