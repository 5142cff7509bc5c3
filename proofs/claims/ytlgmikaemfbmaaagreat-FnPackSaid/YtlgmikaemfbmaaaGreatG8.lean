/- Walks of functions of this program (printed by a program of ours, by the rules of the layer). No condition. -/
import Derived.Test.YtlgmikaemfbmaaaGreatG7
import Derived.Test.YtlgmikaemfbmaaaGreatNs
namespace Go.Proofs.YtlgmikaemfbmaaaGreat
open Go.RowKit

noncomputable def x_impl_ApplyAll_b0 (_l : List (List DPart)) (_k21 : Nat) (x79 : List DPart) (out22 : List Int) : Option (Lr (List Int) (Sum (List Int) Unit)) :=
  Option.bind (x_impl_Apply x79 out22) fun r61 => bif !r61.2 then (some (Lr.out (Sum.inr (())))) else (some (Lr.go r61.1))
noncomputable def x_impl_ApplyAll_f0 (l : List (List DPart)) (k21 : Nat) (s80 : List Int) : Option (Lr (List Int) (Sum (List Int) Unit)) := x_impl_ApplyAll_b0 l k21 (el l k21) s80
noncomputable def x_impl_ApplyAll (l : List (List DPart)) (t : List Int) : Option (List Int × Bool) :=
  Option.bind (x_impl_TextOk t) fun r4 => bif !r4 then (some ([], false)) else (Option.bind (x_impl_copyInts t) fun r12 => Option.bind (eachN (x_impl_ApplyAll_f0 l) (fun (s80 : List Int) => (Sum.inl s80 : Sum (List Int) Unit)) l.length 0 r12) fun (y81 : Sum (List Int) Unit) => Sum.elim (fun y82 => some (y82, true)) (fun _y83 => some ([], false)) y81)
theorem ct_impl_ApplyAll (w : World) (X S : Bs) (l : List (List DPart)) (s_l : Sv) (t : List Int) (s_t : Sv) (hS : ∀ b, S b → b < w.heap.size ∧ ¬ X b) (a_l_0 : (cSl 1 fLDPart l).rd S w s_l.v) (a_t_0 : (cSl 1 fI t).rd S w s_t.v) (oL : Sep [] X w) {r : List Int × Bool} (hx : x_impl_ApplyAll l t = some r) :
  Ret Tryz.prog 31 [s_l.v, s_t.v] w (fun u w' => ∃ y : Sv, u = .tuple #[y.v, (.bool r.2)] ∧ Gives X S w [oC (cSl 1 fI r.1) y.v] [] w') := by
 unfold x_impl_ApplyAll at hx
 refine enter Tryz.func31 rfl Tryz.ntmps31 (by kernel_rfl) rfl ?_
 have hM := St.enter oL hS
 have hM := hM.addE (r := rV s_l.v (cSl 1 fLDPart l)) a_l_0
 have hM := hM.addE (r := rV s_t.v (cSl 1 fI t)) a_t_0
 refine wc_sr ?_
 refine was rfl rfl ?_
 refine was rfl rfl ?_
 refine wl_sq ?_
 refine wc_seq ?_
 refine wc_sr ?_
 refine wmv rfl rfl ?_
 obtain ⟨r92, h93, hx⟩ := bind_some' hx
 refine w_call rfl rfl (hM.callV fun X S oL hS hR hO => ct_impl_TextOk _ X S t s_t hS (hR _ (.head _)) oL h93) ?_
 rintro _ w94 ⟨rfl, hR95⟩
 have hM := hM.call hR95
 refine wv rfl (r_not rfl) ?_
 refine wl_sq ?_
 refine wc_cond rfl (fun hc97 => ?_) (fun hc97 => ?_)
 ·
  replace hx := xif_t hc97 hx
  refine wc_sr ?_
  refine was rfl rfl ?_
  refine was rfl rfl ?_
  refine wl_sq ?_
  refine wc_ret ?_
  refine sq_ret ?_
  obtain rfl := Option.some.inj hx
  have hM := hM.nil0 (T := Int) 1 fI
  refine fin_ret [nS.v, (.bool false)] ⟨rfl, rfl, trivial⟩ ?_
  replace hM := hM.t1
  have hM := hM.fewer rsN
  exact ⟨nS, rfl, hM.gives⟩
 ·
  replace hx := xif_f hc97 hx
  refine wc_skip ?_
  refine sq_n ?_
  refine wc_sr ?_
  refine wmv rfl rfl ?_
  obtain ⟨r102, h103, hx⟩ := bind_some' hx
  refine w_call rfl rfl (hM.callO (l := []) fun X S oL hS hR hO => ct_impl_copyInts _ X S t s_t hS (hR _ (.head _)) oL h103) ?_
  rintro _ w104 ⟨s105, rfl, hM⟩
  dsimp only [List.cons_append, List.nil_append] at hM
  refine was rfl rfl ?_
  refine wl_sq ?_
  refine wc_seq ?_
  refine wc_sr ?_
  refine wmv rfl rfl ?_
  refine wv rfl (r_lenC Tryz.underlying65 rfl (hM.seeR (.tail _ (.head _)))) ?_
  refine wmv rfl rfl ?_
  refine wl_sq ?_
  refine wc_block ?_
  obtain ⟨y111, hx, hx112⟩ := bind_some' hx
  have hM := hM.fewer (rsC (.tail _ (.head _)) rsN)
  replace hM : St ⟨w, X, S⟩ [oC (cSl 1 fI r102) s105.v] [rV s_l.v (cSl 1 fLDPart l)] _ := hM
  have hl119 := Cs.le (hM.seeR (.head _))
  refine wc_loop (un fun (m116 : Nat) => un fun (k117 : Nat) => un fun (out113 : List Int) => fun (s115 : Sv) => [(6, s115.v), (16, s_l.v), (17, (.int .i64 (l.length : Int))), (18, (.int .i64 (k117 : Int)))]) (un fun (m116 : Nat) => un fun (k117 : Nat) => un fun (out113 : List Int) => fun (s115 : Sv) w' => St ⟨w, X, S⟩ [oC (cSl 1 fI out113) s115.v] [rV s_l.v (cSl 1 fLDPart l)] w' ∧ eachN _ _ m116 k117 out113 = some y111 ∧ k117 + m116 = l.length) (fun p => p.1) (l.length, 0, r102, s105) ⟨rfl, rfl, rfl, rfl, trivial⟩ ⟨hM, hx, Nat.zero_add _⟩ ?_
  rintro ⟨m116, k117, out113, s115⟩ w120 ⟨hM, hx, hk118⟩
  refine wc_sr ?_
  refine wv rfl (r_lss rfl rfl) ?_
  refine wl_sq ?_
  refine wc_seq ?_
  refine wc_cond rfl (fun hc122 => ?_) (fun hc122 => ?_)
  ·
   replace hc122 := of_decide_eq_true hc122
   obtain ⟨m123, z124, rfl, hk118, hx, hx125⟩ := eachN_step hx hk118 hc122
   unfold x_impl_ApplyAll_f0 x_impl_ApplyAll_b0 at hx
   try dsimp only at hx
   refine wc_skip ?_
   refine sq_n ?_
   refine wc_seq ?_
   refine wc_block ?_
   refine wc_sr ?_
   have hi127 : k117 < l.length := by omega
   refine wv rfl (r_ixC Tryz.underlying65 sz48 rfl rfl (hM.seeR (.head _)) ⟨by omega, hc122⟩) ?_
   obtain ⟨s129, hM, hc130⟩ := hM.leaf (i := k117) (j := 0) (.head _) (fun _ => rfl) hi127 rfl
   refine wv rfl (r_ld Tryz.underlying48 rfl rfl (hc130 _ (Rel.refl _))) ?_
   refine was rfl rfl ?_
   refine wl_sq ?_
   refine wc_sr ?_
   refine wmv rfl rfl ?_
   refine wmv rfl rfl ?_
   obtain ⟨r134, h135, hx⟩ := bind_some' hx
   refine w_call rfl rfl (hM.callO (l := []) fun X S oL hS hR hO => ct_impl_Apply _ X S (el l k117) s129 out113 s115 hS (hR _ (.head _)) (seeA hO (.head _)) oL h135) ?_
   rintro _ w136 ⟨s137, rfl, hM⟩
   dsimp only [List.cons_append, List.nil_append] at hM
   refine wmv rfl rfl ?_
   refine wv rfl (r_extract rfl rfl) ?_
   refine wv rfl (r_extract rfl rfl) ?_
   refine was rfl rfl ?_
   refine was rfl rfl ?_
   refine wl_sq ?_
   refine wc_seq ?_
   refine wc_sr ?_
   refine wmv rfl rfl ?_
   refine wv rfl (r_not rfl) ?_
   refine wl_sq ?_
   refine wc_cond rfl (fun hc146 => ?_) (fun hc146 => ?_)
   ·
    replace hx := xif_t hc146 hx
    refine wc_sr ?_
    refine was rfl rfl ?_
    refine was rfl rfl ?_
    refine wl_sq ?_
    refine wc_ret ?_
    refine sq_ret ?_
    refine bk_ret ?_
    refine sq_ret ?_
    refine lp1_ret ?_
    obtain rfl := Option.some.inj hx
    obtain rfl := Option.some.inj hx125
    replace hx := hx112
    try dsimp only [Sum.elim_inl, Sum.elim_inr] at hx
    refine bk_ret ?_
    refine sq_ret ?_
    obtain rfl := Option.some.inj hx
    have hM := hM.nil0 (T := Int) 1 fI
    refine fin_ret [nS.v, (.bool false)] ⟨rfl, rfl, trivial⟩ ?_
    replace hM := hM.t1
    have hM := hM.fewer rsN
    exact ⟨nS, rfl, hM.gives⟩
   ·
    replace hx := xif_f hc146 hx
    refine wc_skip ?_
    refine sq_n ?_
    refine wc_region ?_
    refine wmv rfl rfl ?_
    refine was rfl rfl ?_
    refine wl_nil ?_
    refine bk_n ?_
    refine sq_n ?_
    refine wc_region ?_
    refine wv rfl (r_add rfl rfl ⟨by omega, by omega⟩) ?_
    refine wmv rfl rfl ?_
    refine wl_nil ?_
    obtain rfl := Option.some.inj hx
    replace hM := hM.t1
    have hM := hM.fewer (rsC (.tail _ (.head _)) rsN)
    replace hM : St ⟨w, X, S⟩ [oC (cSl 1 fI r134.1) s137.v] [rV s_l.v (cSl 1 fLDPart l)] _ := hM
    exact lp_end (m123, k117 + 1, r134.1, s137) (Nat.lt_succ_self _) ⟨rfl, rfl, rfl, rfl, trivial⟩ ⟨hM, hx125, hk118⟩
  ·
   replace hc122 := of_decide_eq_false hc122
   obtain rfl := eachN_end hx hk118 hc122
   refine wc_exit ?_
   refine sq_exit ?_
   refine lp1_exit ?_
   replace hx := hx112
   try dsimp only [Sum.elim_inl, Sum.elim_inr] at hx
   refine bk_here ?_
   refine sq_n ?_
   refine wc_sr ?_
   refine wmv rfl rfl ?_
   refine was rfl rfl ?_
   refine was rfl rfl ?_
   refine wl_sq ?_
   refine wc_ret ?_
   obtain rfl := Option.some.inj hx
   refine fin_ret [s115.v, (.bool true)] ⟨rfl, rfl, trivial⟩ ?_
   replace hM := hM.t1
   have hM := hM.fewer rsN
   exact ⟨s115, rfl, hM.gives⟩

noncomputable def x_impl_EntryOk (e : DEntry) : Option Bool :=
  Option.bind (x_impl_within e.client 1 8) fun r8 => Option.bind (bif r8 then (Option.bind (x_impl_within e.seq 1 1000000000) fun r23 => some r23) else (some false)) fun c13 => Option.bind (bif c13 then (Option.bind (x_impl_IsNorm e.o) fun r38 => some r38) else (some false)) fun c28 => some c28
theorem ct_impl_EntryOk (w : World) (X S : Bs) (e : DEntry) (s_e_2 : Sv) (hS : ∀ b, S b → b < w.heap.size ∧ ¬ X b) (a_e_2 : (cSl 3 fDPart e.o).rd S w s_e_2.v) (oL : Sep [] X w) {r : Bool} (hx : x_impl_EntryOk e = some r) :
  Ret Tryz.prog 35 [(.agg #[(.int .i64 e.client), (.int .i64 e.seq), s_e_2.v])] w (fun u w' => ∃ _ : Unit, u = (.bool r) ∧ Gives X S w [] [] w') := by
 unfold x_impl_EntryOk at hx
 refine enter Tryz.func35 rfl Tryz.ntmps35 (by kernel_rfl) rfl ?_
 have hM := St.enter oL hS
 have hM := hM.addE (r := rV s_e_2.v (cSl 3 fDPart e.o)) a_e_2
 refine wc_sr ?_
 refine w_ex rfl (x_box rfl hM ?_); intro b44 w43 hR45 hM
 dsimp only [Value.cells] at hM
 refine was rfl rfl ?_
 refine wl_sq ?_
 refine wc_sr ?_
 refine wv rfl (r_fld Tryz.underlying70 rfl rfl sz3 rfl) ?_
 refine wv rfl (r_ldB Tryz.underlying3 rfl rfl hM (.head _) rfl) ?_
 obtain ⟨r50, h51, hx⟩ := bind_some' hx
 refine w_call rfl rfl (hM.callV fun X S oL hS hR hO => ct_impl_within _ X S e.client (1 : Int) (8 : Int) hS  oL h51) ?_
 rintro _ w52 ⟨rfl, hR53⟩
 have hM := hM.call hR53
 refine wmv rfl rfl ?_
 obtain ⟨c55, hx, hx63⟩ := bind_some' hx
 refine wl_mid 4 (fun _ : Unit => [(10, (.bool c55)), (1, (.pointer (some ⟨b44, 0, none⟩)))]) (fun _ w' => St ⟨w, X, S⟩ [oBox b44 #[(.int .i64 e.client), (.int .i64 e.seq), s_e_2.v] 70] [rV s_e_2.v (cSl 3 fDPart e.o)] w') ?_ ?_
 ·
  rcases Bool.eq_false_or_eq_true r50 with hg56 | hg56
  ·
   replace hx := xif_t hg56 hx
   refine gv rfl hg56 rfl (r_fld Tryz.underlying70 rfl rfl sz3 rfl) ?_
   refine gv rfl hg56 rfl (r_ldB Tryz.underlying3 rfl rfl hM (.head _) rfl) ?_
   obtain ⟨r66, h67, hx⟩ := bind_some' hx
   refine gc rfl hg56 rfl rfl (hM.callV fun X S oL hS hR hO => ct_impl_within _ X S e.seq (1 : Int) (1000000000 : Int) hS  oL h67) ?_
   rintro _ w68 ⟨rfl, hR69⟩
   have hM := hM.call hR69
   refine wv rfl (p_t rfl hg56 rfl) ?_
   obtain rfl := Option.some.inj hx
   exact mid_nil () ⟨rfl, rfl, trivial⟩ hM
  ·
   replace hx := xif_f hg56 hx
   refine gs rfl (isB_no hg56) rfl ?_
   refine gs rfl (isB_no hg56) rfl ?_
   refine gs rfl (isB_no hg56) rfl ?_
   refine wv rfl (p_f rfl hg56 rfl) ?_
   obtain rfl := Option.some.inj hx
   exact mid_nil () ⟨rfl, rfl, trivial⟩ hM
 rintro _ w70 hM
 replace hx := hx63
 refine wmv rfl rfl ?_
 obtain ⟨c72, hx, hx80⟩ := bind_some' hx
 refine wl_mid 4 (fun _ : Unit => [(15, (.bool c72))]) (fun _ w' => St ⟨w, X, S⟩ [oBox b44 #[(.int .i64 e.client), (.int .i64 e.seq), s_e_2.v] 70] [rV s_e_2.v (cSl 3 fDPart e.o)] w') ?_ ?_
 ·
  rcases Bool.eq_false_or_eq_true c55 with hg73 | hg73
  ·
   replace hx := xif_t hg73 hx
   refine gv rfl hg73 rfl (r_fld Tryz.underlying70 rfl rfl sz48 rfl) ?_
   refine gv rfl hg73 rfl (r_ldB Tryz.underlying48 rfl rfl hM (.head _) rfl) ?_
   obtain ⟨r83, h84, hx⟩ := bind_some' hx
   refine gc rfl hg73 rfl rfl (hM.callV fun X S oL hS hR hO => ct_impl_IsNorm _ X S e.o s_e_2 hS (hR _ (.head _)) oL h84) ?_
   rintro _ w85 ⟨rfl, hR86⟩
   have hM := hM.call hR86
   refine wv rfl (p_t rfl hg73 rfl) ?_
   obtain rfl := Option.some.inj hx
   exact mid_nil () ⟨rfl, trivial⟩ hM
  ·
   replace hx := xif_f hg73 hx
   refine gs rfl (isB_no hg73) rfl ?_
   refine gs rfl (isB_no hg73) rfl ?_
   refine gs rfl (isB_no hg73) rfl ?_
   refine wv rfl (p_f rfl hg73 rfl) ?_
   obtain rfl := Option.some.inj hx
   exact mid_nil () ⟨rfl, trivial⟩ hM
 rintro _ w87 hM
 replace hx := hx80
 refine was rfl rfl ?_
 refine wl_sq ?_
 refine wc_ret ?_
 obtain rfl := Option.some.inj hx
 refine fin_ret [(.bool c72)] ⟨rfl, trivial⟩ ?_
 replace hM := hM.t0
 have hM := hM.fewer rsN
 exact ⟨(), rfl, hM.gives⟩

noncomputable def x_spec_EntryOk (e : DEntry) : Option Bool :=
  Option.bind (x_spec_l01In e.client 1 8) fun r8 => Option.bind (bif r8 then (Option.bind (x_spec_l01In e.seq 1 1000000000) fun r23 => some r23) else (some false)) fun c13 => Option.bind (bif c13 then (Option.bind (x_spec_IsNorm e.o) fun r38 => some r38) else (some false)) fun c28 => some c28
theorem ct_spec_EntryOk (w : World) (X S : Bs) (e : DEntry) (s_e_2 : Sv) (hS : ∀ b, S b → b < w.heap.size ∧ ¬ X b) (a_e_2 : (cSl 3 fDPart e.o).rd S w s_e_2.v) (oL : Sep [] X w) {r : Bool} (hx : x_spec_EntryOk e = some r) :
  Ret Tryz.prog 89 [(.agg #[(.int .i64 e.client), (.int .i64 e.seq), s_e_2.v])] w (fun u w' => ∃ _ : Unit, u = (.bool r) ∧ Gives X S w [] [] w') := by
 unfold x_spec_EntryOk at hx
 refine enter Tryz.func89 rfl Tryz.ntmps89 (by kernel_rfl) rfl ?_
 have hM := St.enter oL hS
 have hM := hM.addE (r := rV s_e_2.v (cSl 3 fDPart e.o)) a_e_2
 refine wc_sr ?_
 refine w_ex rfl (x_box rfl hM ?_); intro b44 w43 hR45 hM
 dsimp only [Value.cells] at hM
 refine was rfl rfl ?_
 refine wl_sq ?_
 refine wc_sr ?_
 refine wv rfl (r_fld Tryz.underlying70 rfl rfl sz3 rfl) ?_
 refine wv rfl (r_ldB Tryz.underlying3 rfl rfl hM (.head _) rfl) ?_
 obtain ⟨r50, h51, hx⟩ := bind_some' hx
 refine w_call rfl rfl (hM.callV fun X S oL hS hR hO => ct_spec_l01In _ X S e.client (1 : Int) (8 : Int) hS  oL h51) ?_
 rintro _ w52 ⟨rfl, hR53⟩
 have hM := hM.call hR53
 refine wmv rfl rfl ?_
 obtain ⟨c55, hx, hx63⟩ := bind_some' hx
 refine wl_mid 4 (fun _ : Unit => [(10, (.bool c55)), (1, (.pointer (some ⟨b44, 0, none⟩)))]) (fun _ w' => St ⟨w, X, S⟩ [oBox b44 #[(.int .i64 e.client), (.int .i64 e.seq), s_e_2.v] 70] [rV s_e_2.v (cSl 3 fDPart e.o)] w') ?_ ?_
 ·
  rcases Bool.eq_false_or_eq_true r50 with hg56 | hg56
  ·
   replace hx := xif_t hg56 hx
   refine gv rfl hg56 rfl (r_fld Tryz.underlying70 rfl rfl sz3 rfl) ?_
   refine gv rfl hg56 rfl (r_ldB Tryz.underlying3 rfl rfl hM (.head _) rfl) ?_
   obtain ⟨r66, h67, hx⟩ := bind_some' hx
   refine gc rfl hg56 rfl rfl (hM.callV fun X S oL hS hR hO => ct_spec_l01In _ X S e.seq (1 : Int) (1000000000 : Int) hS  oL h67) ?_
   rintro _ w68 ⟨rfl, hR69⟩
   have hM := hM.call hR69
   refine wv rfl (p_t rfl hg56 rfl) ?_
   obtain rfl := Option.some.inj hx
   exact mid_nil () ⟨rfl, rfl, trivial⟩ hM
  ·
   replace hx := xif_f hg56 hx
   refine gs rfl (isB_no hg56) rfl ?_
   refine gs rfl (isB_no hg56) rfl ?_
   refine gs rfl (isB_no hg56) rfl ?_
   refine wv rfl (p_f rfl hg56 rfl) ?_
   obtain rfl := Option.some.inj hx
   exact mid_nil () ⟨rfl, rfl, trivial⟩ hM
 rintro _ w70 hM
 replace hx := hx63
 refine wmv rfl rfl ?_
 obtain ⟨c72, hx, hx80⟩ := bind_some' hx
 refine wl_mid 4 (fun _ : Unit => [(15, (.bool c72))]) (fun _ w' => St ⟨w, X, S⟩ [oBox b44 #[(.int .i64 e.client), (.int .i64 e.seq), s_e_2.v] 70] [rV s_e_2.v (cSl 3 fDPart e.o)] w') ?_ ?_
 ·
  rcases Bool.eq_false_or_eq_true c55 with hg73 | hg73
  ·
   replace hx := xif_t hg73 hx
   refine gv rfl hg73 rfl (r_fld Tryz.underlying70 rfl rfl sz48 rfl) ?_
   refine gv rfl hg73 rfl (r_ldB Tryz.underlying48 rfl rfl hM (.head _) rfl) ?_
   obtain ⟨r83, h84, hx⟩ := bind_some' hx
   refine gc rfl hg73 rfl rfl (hM.callV fun X S oL hS hR hO => ct_spec_IsNorm _ X S e.o s_e_2 hS (hR _ (.head _)) oL h84) ?_
   rintro _ w85 ⟨rfl, hR86⟩
   have hM := hM.call hR86
   refine wv rfl (p_t rfl hg73 rfl) ?_
   obtain rfl := Option.some.inj hx
   exact mid_nil () ⟨rfl, trivial⟩ hM
  ·
   replace hx := xif_f hg73 hx
   refine gs rfl (isB_no hg73) rfl ?_
   refine gs rfl (isB_no hg73) rfl ?_
   refine gs rfl (isB_no hg73) rfl ?_
   refine wv rfl (p_f rfl hg73 rfl) ?_
   obtain rfl := Option.some.inj hx
   exact mid_nil () ⟨rfl, trivial⟩ hM
 rintro _ w87 hM
 replace hx := hx80
 refine was rfl rfl ?_
 refine wl_sq ?_
 refine wc_ret ?_
 obtain rfl := Option.some.inj hx
 refine fin_ret [(.bool c72)] ⟨rfl, trivial⟩ ?_
 replace hM := hM.t0
 have hM := hM.fewer rsN
 exact ⟨(), rfl, hM.gives⟩

noncomputable def x_impl_opsOf_b0 (_list : List DEntry) (_k35 : Nat) (x93 : DEntry) (out36 : List (List DPart)) : Option (Lr (List (List DPart)) (List (List DPart))) :=
  Option.bind (x_impl_copyOp (x93.o)) fun r81 => xg (out36.length < 1099511627776) <| some (Lr.go (out36 ++ [r81]))
noncomputable def x_impl_opsOf_f0 (list : List DEntry) (k35 : Nat) (s94 : List (List DPart)) : Option (Lr (List (List DPart)) (List (List DPart))) := x_impl_opsOf_b0 list k35 (el list k35) s94
noncomputable def x_impl_opsOf (list : List DEntry) : Option (List (List DPart)) :=
  Option.bind (eachN (x_impl_opsOf_f0 list) (fun (s94 : List (List DPart)) => (s94 : List (List DPart))) list.length 0 []) fun (y95 : List (List DPart)) => some y95
theorem ct_impl_opsOf (w : World) (X S : Bs) (list : List DEntry) (s_list : Sv) (hS : ∀ b, S b → b < w.heap.size ∧ ¬ X b) (a_list_0 : (cSl 3 fDEntry list).rd S w s_list.v) (oL : Sep [] X w) {r : List (List DPart)} (hx : x_impl_opsOf list = some r) :
  Ret Tryz.prog 32 [s_list.v] w (fun u w' => ∃ y : Sv, u = y.v ∧ Gives X S w [oC (cSl 1 fLDPart r) y.v] [] w') := by
 unfold x_impl_opsOf at hx
 refine enter Tryz.func32 rfl Tryz.ntmps32 (by kernel_rfl) rfl ?_
 have hM := St.enter oL hS
 have hM := hM.addE (r := rV s_list.v (cSl 3 fDEntry list)) a_list_0
 refine wc_sr ?_
 refine was rfl rfl ?_
 refine wl_sq ?_
 refine wc_sr ?_
 refine was rfl rfl ?_
 refine wl_sq ?_
 refine wc_seq ?_
 refine wc_sr ?_
 refine wmv rfl rfl ?_
 refine wv rfl (r_lenC Tryz.underlying24 rfl (hM.seeR (.head _))) ?_
 refine wmv rfl rfl ?_
 refine wl_sq ?_
 refine wc_block ?_
 obtain ⟨y105, hx, hx106⟩ := bind_some' hx
 have hM := hM.nil0 (T := List DPart) 1 fLDPart
 have hl114 := Cs.le (hM.seeR (.head _))
 refine wc_loop (un fun (m111 : Nat) => un fun (k112 : Nat) => un fun (out108 : List (List DPart)) => fun (s110 : Sv) => [(3, s110.v), (6, s_list.v), (7, (.int .i64 (list.length : Int))), (8, (.int .i64 (k112 : Int)))]) (un fun (m111 : Nat) => un fun (k112 : Nat) => un fun (out108 : List (List DPart)) => fun (s110 : Sv) w' => St ⟨w, X, S⟩ [oC (cSl 1 fLDPart out108) s110.v] [rV s_list.v (cSl 3 fDEntry list)] w' ∧ eachN _ _ m111 k112 out108 = some y105 ∧ k112 + m111 = list.length) (fun p => p.1) (list.length, 0, [], nS) ⟨rfl, rfl, rfl, rfl, trivial⟩ ⟨hM, hx, Nat.zero_add _⟩ ?_
 rintro ⟨m111, k112, out108, s110⟩ w115 ⟨hM, hx, hk113⟩
 refine wc_sr ?_
 refine wv rfl (r_lss rfl rfl) ?_
 refine wl_sq ?_
 refine wc_seq ?_
 refine wc_cond rfl (fun hc117 => ?_) (fun hc117 => ?_)
 ·
  replace hc117 := of_decide_eq_true hc117
  obtain ⟨m118, z119, rfl, hk113, hx, hx120⟩ := eachN_step hx hk113 hc117
  unfold x_impl_opsOf_f0 x_impl_opsOf_b0 at hx
  try dsimp only at hx
  refine wc_skip ?_
  refine sq_n ?_
  refine wc_seq ?_
  refine wc_block ?_
  refine wc_sr ?_
  have hi122 : k112 < list.length := by omega
  refine wv rfl (r_ixC Tryz.underlying24 sz70 rfl rfl (hM.seeR (.head _)) ⟨by omega, hc117⟩) ?_
  obtain ⟨s124, hM, hc125⟩ := hM.leaf (i := k112) (j := 2) (.head _) (fun _ => rfl) hi122 rfl
  refine wv rfl (r_ldC (o := k112 * 3) Tryz.underlying70 sz70 rfl (us := [(.int .i64 ((el list k112).client)), (.int .i64 ((el list k112).seq)), s124.v]) rfl (hM.seeR (.tail _ (.head _))) hi122 ⟨(Cs.get (i := k112) (j := 0) (hM.seeR (.tail _ (.head _))) (fun _ => rfl) hi122 rfl), (Cs.get (i := k112) (j := 1) (hM.seeR (.tail _ (.head _))) (fun _ => rfl) hi122 rfl), (hc125 _ (Rel.refl _)), trivial⟩) ?_
  refine w_ex rfl (x_alloc sz70 hM ?_); intro b127 w126 hR128 hM
  dsimp only [Value.cells] at hM
  refine w_exu (x_stB #[(.int .i64 ((el list k112).client)), (.int .i64 ((el list k112).seq)), s124.v] sz70 rfl rfl rfl rfl rfl rfl hM ?_); intro w130 hM
  refine wl_sq ?_
  refine wc_region ?_
  refine wmv rfl rfl ?_
  refine wv rfl (r_fld Tryz.underlying70 rfl rfl sz48 rfl) ?_
  refine wv rfl (r_ldB Tryz.underlying48 rfl rfl hM (.head _) rfl) ?_
  obtain ⟨r135, h136, hx⟩ := bind_some' hx
  refine w_call rfl rfl (hM.callO (l := []) fun X S oL hS hR hO => ct_impl_copyOp _ X S ((el list k112).o) s124 hS (hR _ (.head _)) oL h136) ?_
  rintro _ w137 ⟨s138, rfl, hM⟩
  dsimp only [List.cons_append, List.nil_append] at hM
  replace hM := hM.p2
  obtain ⟨hg143, hx⟩ := xg_some hx
  refine w_push (f := fLDPart) r135 rfl rfl Tryz.underlying65 sz48 rfl rfl rfl rfl (fun _ => rfl) hM (fun _ => zO zN) rfl hg143 rfl ?_; intro u141 s142 w140 hM
  refine was rfl rfl ?_
  refine wl_nil ?_
  refine bk_n ?_
  refine sq_n ?_
  refine wc_region ?_
  refine wv rfl (r_add rfl rfl ⟨by omega, by omega⟩) ?_
  refine wmv rfl rfl ?_
  refine wl_nil ?_
  obtain rfl := Option.some.inj hx
  replace hM := hM.t1
  have hM := hM.fewer (rsC (.tail _ (.head _)) rsN)
  replace hM : St ⟨w, X, S⟩ [oC (cSl 1 fLDPart (out108 ++ [r135])) s142.v] [rV s_list.v (cSl 3 fDEntry list)] _ := hM
  exact lp_end (m118, k112 + 1, out108 ++ [r135], s142) (Nat.lt_succ_self _) ⟨rfl, rfl, rfl, rfl, trivial⟩ ⟨hM, hx120, hk113⟩
 ·
  replace hc117 := of_decide_eq_false hc117
  obtain rfl := eachN_end hx hk113 hc117
  refine wc_exit ?_
  refine sq_exit ?_
  refine lp1_exit ?_
  replace hx := hx106
  try dsimp only [Sum.elim_inl, Sum.elim_inr] at hx
  refine bk_here ?_
  refine sq_n ?_
  refine wc_sr ?_
  refine wmv rfl rfl ?_
  refine was rfl rfl ?_
  refine wl_sq ?_
  refine wc_ret ?_
  obtain rfl := Option.some.inj hx
  refine fin_ret [s110.v] ⟨rfl, trivial⟩ ?_
  replace hM := hM.t1
  have hM := hM.fewer rsN
  exact ⟨s110, rfl, hM.gives⟩

noncomputable def x_spec_l08Entry (e : DEntry) : Option DEntry :=
  Option.bind (x_spec_l02Copy e.o) fun r15 => some (⟨e.client, e.seq, r15⟩ : DEntry)
theorem ct_spec_l08Entry (w : World) (X S : Bs) (e : DEntry) (s_e_2 : Sv) (hS : ∀ b, S b → b < w.heap.size ∧ ¬ X b) (a_e_2 : (cSl 3 fDPart e.o).rd S w s_e_2.v) (oL : Sep [] X w) {r : DEntry} (hx : x_spec_l08Entry e = some r) :
  Ret Tryz.prog 103 [(.agg #[(.int .i64 e.client), (.int .i64 e.seq), s_e_2.v])] w (fun u w' => ∃ y : Sv, u = .agg #[(.int .i64 r.client), (.int .i64 r.seq), y.v] ∧ Gives X S w [oC (cSl 3 fDPart r.o) y.v] [] w') := by
 unfold x_spec_l08Entry at hx
 refine enter Tryz.func103 rfl Tryz.ntmps103 (by kernel_rfl) rfl ?_
 have hM := St.enter oL hS
 have hM := hM.addE (r := rV s_e_2.v (cSl 3 fDPart e.o)) a_e_2
 refine wc_sr ?_
 refine w_ex rfl (x_box rfl hM ?_); intro b31 w30 hR32 hM
 dsimp only [Value.cells] at hM
 refine w_ex rfl (x_alloc sz70 hM ?_); intro b35 w34 hR36 hM
 dsimp only [Value.cells] at hM
 refine wl_sq ?_
 refine wc_seq ?_
 refine wc_draw [(0, 0), (1, 0), (2, 0), (3, 0), (4, 0), (5, 0), (6, 1), (7, 0), (8, 2)] Tryz_mixed (by kernel_rfl) rfl (by kernel_rfl) rfl ?_
 refine ov rfl (fun w' h' => r_fld Tryz.underlying70 rfl rfl sz3 rfl) ?_
 refine ov rfl (fun w' h' => r_ldB Tryz.underlying3 rfl rfl (hM.call h') (.tail _ (.head _)) rfl) ?_
 refine ov rfl (fun w' h' => r_fld Tryz.underlying70 rfl rfl sz3 rfl) ?_
 refine ov rfl (fun w' h' => r_ldB Tryz.underlying3 rfl rfl (hM.call h') (.tail _ (.head _)) rfl) ?_
 refine ov rfl (fun w' h' => r_fld Tryz.underlying70 rfl rfl sz48 rfl) ?_
 refine ov rfl (fun w' h' => r_ldB Tryz.underlying48 rfl rfl (hM.call h') (.tail _ (.head _)) rfl) ?_
 obtain ⟨r44, h45, hx⟩ := bind_some' hx
 refine o_forced rfl rfl (fun w' h' => (hM.call h').callF fun X S oL hS hR hO => ct_spec_l02Copy _ X S e.o s_e_2 hS (hR _ (.head _)) oL h45) ?_
 rintro w48 h49 _ w46 ⟨hR50, s47, rfl, hM⟩
 refine ⟨hR50, ?_⟩
 dsimp only [List.cons_append, List.nil_append] at hM
 refine ov rfl (fun w' h' => r_build (cells := #[(.int .i64 e.client), (.int .i64 e.seq), s47.v]) rfl (by kernel_rfl)) ?_
 replace hM := hM.p1
 refine o_exu fun w55 h56 => ?_
 have hM := hM.call h56
 refine x_stB #[(.int .i64 e.client), (.int .i64 e.seq), s47.v] sz70 rfl rfl rfl rfl rfl rfl hM ?_; intro w53 hM
 refine o_nilM hM fun w57 hM => ?_
 refine sq_n ?_
 refine wc_ret ?_
 obtain rfl := Option.some.inj hx
 refine fin_ret [(.agg #[(.int .i64 e.client), (.int .i64 e.seq), s47.v])] ⟨rv_box Tryz.underlying70 sz70 rfl rfl hM (.head _), trivial⟩ ?_
 replace hM := hM.p1
 replace hM := hM.t1
 have hM := hM.fewer rsN
 exact ⟨s47, rfl, hM.gives⟩

noncomputable def x_spec_l08Entries_b0 (_l : List DEntry) (_k10 : Nat) (x66 : DEntry) (out11 : List DEntry) : Option (Lr (List DEntry) (List DEntry)) :=
  Option.bind (x_spec_l08Entry x66) fun r54 => xg (out11.length < 1099511627776) <| some (Lr.go (out11 ++ [r54]))
noncomputable def x_spec_l08Entries_f0 (l : List DEntry) (k10 : Nat) (s67 : List DEntry) : Option (Lr (List DEntry) (List DEntry)) := x_spec_l08Entries_b0 l k10 (el l k10) s67
noncomputable def x_spec_l08Entries (l : List DEntry) : Option (List DEntry) :=
  Option.bind (eachN (x_spec_l08Entries_f0 l) (fun (s67 : List DEntry) => (s67 : List DEntry)) l.length 0 []) fun (y68 : List DEntry) => some y68
theorem ct_spec_l08Entries (w : World) (X S : Bs) (l : List DEntry) (s_l : Sv) (hS : ∀ b, S b → b < w.heap.size ∧ ¬ X b) (a_l_0 : (cSl 3 fDEntry l).rd S w s_l.v) (oL : Sep [] X w) {r : List DEntry} (hx : x_spec_l08Entries l = some r) :
  Ret Tryz.prog 95 [s_l.v] w (fun u w' => ∃ y : Sv, u = y.v ∧ Gives X S w [oC (cSl 3 fDEntry r) y.v] [] w') := by
 unfold x_spec_l08Entries at hx
 refine enter Tryz.func95 rfl Tryz.ntmps95 (by kernel_rfl) rfl ?_
 have hM := St.enter oL hS
 have hM := hM.addE (r := rV s_l.v (cSl 3 fDEntry l)) a_l_0
 refine wc_sr ?_
 refine was rfl rfl ?_
 refine wl_sq ?_
 refine wc_sr ?_
 refine w_ex rfl (x_empty (f := fDEntry) Tryz.underlying24 sz70 (fun _ => rfl) hM ?_); intro s75 w74 hR76 hM
 refine was rfl rfl ?_
 refine wl_sq ?_
 refine wc_seq ?_
 refine wc_sr ?_
 refine wmv rfl rfl ?_
 refine wv rfl (r_lenC Tryz.underlying24 rfl (hM.seeR (.head _))) ?_
 refine wmv rfl rfl ?_
 refine wl_sq ?_
 refine wc_block ?_
 obtain ⟨y82, hx, hx83⟩ := bind_some' hx
 have hl90 := Cs.le (hM.seeR (.head _))
 refine wc_loop (un fun (m87 : Nat) => un fun (k88 : Nat) => un fun (out84 : List DEntry) => fun (s86 : Sv) => [(3, s86.v), (7, s_l.v), (8, (.int .i64 (l.length : Int))), (9, (.int .i64 (k88 : Int)))]) (un fun (m87 : Nat) => un fun (k88 : Nat) => un fun (out84 : List DEntry) => fun (s86 : Sv) w' => St ⟨w, X, S⟩ [oC (cSl 3 fDEntry out84) s86.v] [rV s_l.v (cSl 3 fDEntry l)] w' ∧ eachN _ _ m87 k88 out84 = some y82 ∧ k88 + m87 = l.length) (fun p => p.1) (l.length, 0, [], s75) ⟨rfl, rfl, rfl, rfl, trivial⟩ ⟨hM, hx, Nat.zero_add _⟩ ?_
 rintro ⟨m87, k88, out84, s86⟩ w91 ⟨hM, hx, hk89⟩
 refine wc_sr ?_
 refine wv rfl (r_lss rfl rfl) ?_
 refine wl_sq ?_
 refine wc_seq ?_
 refine wc_cond rfl (fun hc93 => ?_) (fun hc93 => ?_)
 ·
  replace hc93 := of_decide_eq_true hc93
  obtain ⟨m94, z95, rfl, hk89, hx, hx96⟩ := eachN_step hx hk89 hc93
  unfold x_spec_l08Entries_f0 x_spec_l08Entries_b0 at hx
  try dsimp only at hx
  refine wc_skip ?_
  refine sq_n ?_
  refine wc_seq ?_
  refine wc_block ?_
  refine wc_sr ?_
  have hi98 : k88 < l.length := by omega
  refine wv rfl (r_ixC Tryz.underlying24 sz70 rfl rfl (hM.seeR (.head _)) ⟨by omega, hc93⟩) ?_
  obtain ⟨s100, hM, hc101⟩ := hM.leaf (i := k88) (j := 2) (.head _) (fun _ => rfl) hi98 rfl
  refine wv rfl (r_ldC (o := k88 * 3) Tryz.underlying70 sz70 rfl (us := [(.int .i64 ((el l k88).client)), (.int .i64 ((el l k88).seq)), s100.v]) rfl (hM.seeR (.tail _ (.head _))) hi98 ⟨(Cs.get (i := k88) (j := 0) (hM.seeR (.tail _ (.head _))) (fun _ => rfl) hi98 rfl), (Cs.get (i := k88) (j := 1) (hM.seeR (.tail _ (.head _))) (fun _ => rfl) hi98 rfl), (hc101 _ (Rel.refl _)), trivial⟩) ?_
  refine w_ex rfl (x_alloc sz70 hM ?_); intro b103 w102 hR104 hM
  dsimp only [Value.cells] at hM
  refine w_exu (x_stB #[(.int .i64 ((el l k88).client)), (.int .i64 ((el l k88).seq)), s100.v] sz70 rfl rfl rfl rfl rfl rfl hM ?_); intro w106 hM
  refine wl_sq ?_
  refine wc_region ?_
  refine wmv rfl rfl ?_
  refine wv rfl (r_ldBS Tryz.underlying70 sz70 rfl (us := [(.int .i64 ((el l k88).client)), (.int .i64 ((el l k88).seq)), s100.v]) rfl hM (.head _) rfl) ?_
  obtain ⟨r110, h111, hx⟩ := bind_some' hx
  refine w_call rfl rfl (hM.callO (l := []) fun X S oL hS hR hO => ct_spec_l08Entry _ X S (el l k88) s100 hS (hR _ (.head _)) oL h111) ?_
  rintro _ w112 ⟨s113, rfl, hM⟩
  dsimp only [List.cons_append, List.nil_append] at hM
  replace hM := hM.p2
  obtain ⟨hg118, hx⟩ := xg_some hx
  refine w_push (f := fDEntry) r110 rfl rfl Tryz.underlying24 sz70 rfl rfl rfl rfl (fun _ => rfl) hM (fun _ => zP (pV _ rfl) (zP (pV _ rfl) (zO zN))) rfl hg118 rfl ?_; intro u116 s117 w115 hM
  refine was rfl rfl ?_
  refine wl_nil ?_
  refine bk_n ?_
  refine sq_n ?_
  refine wc_region ?_
  refine wv rfl (r_add rfl rfl ⟨by omega, by omega⟩) ?_
  refine wmv rfl rfl ?_
  refine wl_nil ?_
  obtain rfl := Option.some.inj hx
  replace hM := hM.t1
  have hM := hM.fewer (rsC (.tail _ (.head _)) rsN)
  replace hM : St ⟨w, X, S⟩ [oC (cSl 3 fDEntry (out84 ++ [r110])) s117.v] [rV s_l.v (cSl 3 fDEntry l)] _ := hM
  exact lp_end (m94, k88 + 1, out84 ++ [r110], s117) (Nat.lt_succ_self _) ⟨rfl, rfl, rfl, rfl, trivial⟩ ⟨hM, hx96, hk89⟩
 ·
  replace hc93 := of_decide_eq_false hc93
  obtain rfl := eachN_end hx hk89 hc93
  refine wc_exit ?_
  refine sq_exit ?_
  refine lp1_exit ?_
  replace hx := hx83
  try dsimp only [Sum.elim_inl, Sum.elim_inr] at hx
  refine bk_here ?_
  refine sq_n ?_
  refine wc_sr ?_
  refine wmv rfl rfl ?_
  refine was rfl rfl ?_
  refine wl_sq ?_
  refine wc_ret ?_
  obtain rfl := Option.some.inj hx
  refine fin_ret [s86.v] ⟨rfl, trivial⟩ ?_
  replace hM := hM.t1
  have hM := hM.fewer rsN
  exact ⟨s86, rfl, hM.gives⟩

end Go.Proofs.YtlgmikaemfbmaaaGreat
