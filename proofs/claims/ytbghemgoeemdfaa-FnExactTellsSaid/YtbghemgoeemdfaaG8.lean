/- Walks of functions of this program (printed by a program of ours, by the rules of the layer). No condition. -/
import Derived.Test.YtbghemgoeemdfaaG7
namespace Go.Proofs.Ytbghemgoeemdfaa
open Go.RowKit

noncomputable def x_impl_EntryOk (e : DEntry) : Option Bool :=
  Option.bind (x_impl_within e.client 1 8) fun r8 => Option.bind (bif r8 then (Option.bind (x_impl_within e.seq 1 1000000000) fun r23 => some r23) else (some false)) fun c13 => Option.bind (bif c13 then (Option.bind (x_impl_IsNorm e.o) fun r38 => some r38) else (some false)) fun c28 => some c28
theorem ct_impl_EntryOk (w : World) (X S : Bs) (e : DEntry) (s_e_2 : Sv) (hS : ∀ b, S b → b < w.heap.size ∧ ¬ X b) (a_e_2 : (cSl 3 fDPart e.o).rd S w s_e_2.v) (oL : Sep [] X w) {r : Bool} (hx : x_impl_EntryOk e = some r) :
    Ret Try.prog 86 [(.agg #[(.int .i64 e.client), (.int .i64 e.seq), s_e_2.v])] w (fun u w' => ∃ _ : Unit, u = (.bool r) ∧ Gives X S w [] [] w') := by
  unfold x_impl_EntryOk at hx
  refine enter Try.func86 rfl Try.ntmps86 (by kernel_rfl) rfl ?_
  have hM := St.enter oL hS
  have hM := hM.addE (r := rV s_e_2.v (cSl 3 fDPart e.o)) a_e_2
  refine wc_seq ?_
  refine wc_region ?_
  refine w_ex rfl (x_box rfl hM ?_); intro b44 w43 hR45 hM
  replace hM : St ⟨w, X, S⟩ [oBox b44 #[(.int .i64 e.client), (.int .i64 e.seq), s_e_2.v] 107] [rV s_e_2.v (cSl 3 fDPart e.o)] _ := hM
  refine wv rfl (r_assign rfl) ?_
  refine wl_nil ?_
  refine sq_n ?_
  refine wc_seq ?_
  refine wc_region ?_
  refine wv rfl (r_fld Try.underlying107 rfl rfl sz3 rfl) ?_
  refine wv rfl (r_ldB Try.underlying3 rfl rfl hM (.head _) rfl) ?_
  obtain ⟨r50, h51, hx⟩ := bind_some' hx
  refine w_call rfl rfl (hM.callV fun X S oL hS hR hO => ct_impl_within _ X S e.client (1 : Int) (8 : Int) hS  oL h51) ?_
  rintro _ w52 ⟨rfl, hR53⟩
  have hM := hM.call hR53
  refine wv rfl (r_move rfl) ?_
  obtain ⟨c55, hx, hx63⟩ := bind_some' hx
  refine wl_mid 4 (fun _ : Unit => [(10, (.bool c55)), (1, (.pointer (some ⟨b44, 0, none⟩)))]) (fun _ w' => St ⟨w, X, S⟩ [oBox b44 #[(.int .i64 e.client), (.int .i64 e.seq), s_e_2.v] 107] [rV s_e_2.v (cSl 3 fDPart e.o)] w') ?_ ?_
  · rcases Bool.eq_false_or_eq_true r50 with hg56 | hg56
    · replace hx := xif_t hg56 hx
      refine gv rfl hg56 rfl (r_fld Try.underlying107 rfl rfl sz3 rfl) ?_
      refine gv rfl hg56 rfl (r_ldB Try.underlying3 rfl rfl hM (.head _) rfl) ?_
      obtain ⟨r66, h67, hx⟩ := bind_some' hx
      refine gc rfl hg56 rfl rfl (hM.callV fun X S oL hS hR hO => ct_impl_within _ X S e.seq (1 : Int) (1000000000 : Int) hS  oL h67) ?_
      rintro _ w68 ⟨rfl, hR69⟩
      have hM := hM.call hR69
      refine wv rfl (p_t rfl hg56 rfl) ?_
      obtain rfl := Option.some.inj hx
      exact mid_nil () ⟨rfl, rfl, trivial⟩ hM
    · replace hx := xif_f hg56 hx
      refine gs rfl (isB_no hg56) rfl ?_
      refine gs rfl (isB_no hg56) rfl ?_
      refine gs rfl (isB_no hg56) rfl ?_
      refine wv rfl (p_f rfl hg56 rfl) ?_
      obtain rfl := Option.some.inj hx
      exact mid_nil () ⟨rfl, rfl, trivial⟩ hM
  rintro _ w70 hM
  replace hx := hx63
  refine wv rfl (r_move rfl) ?_
  obtain ⟨c72, hx, hx80⟩ := bind_some' hx
  refine wl_mid 4 (fun _ : Unit => [(15, (.bool c72))]) (fun _ w' => St ⟨w, X, S⟩ [oBox b44 #[(.int .i64 e.client), (.int .i64 e.seq), s_e_2.v] 107] [rV s_e_2.v (cSl 3 fDPart e.o)] w') ?_ ?_
  · rcases Bool.eq_false_or_eq_true c55 with hg73 | hg73
    · replace hx := xif_t hg73 hx
      refine gv rfl hg73 rfl (r_fld Try.underlying107 rfl rfl sz31 rfl) ?_
      refine gv rfl hg73 rfl (r_ldB Try.underlying31 rfl rfl hM (.head _) rfl) ?_
      obtain ⟨r83, h84, hx⟩ := bind_some' hx
      refine gc rfl hg73 rfl rfl (hM.callV fun X S oL hS hR hO => ct_impl_IsNorm _ X S e.o s_e_2 hS (hR _ (.head _)) oL h84) ?_
      rintro _ w85 ⟨rfl, hR86⟩
      have hM := hM.call hR86
      refine wv rfl (p_t rfl hg73 rfl) ?_
      obtain rfl := Option.some.inj hx
      exact mid_nil () ⟨rfl, trivial⟩ hM
    · replace hx := xif_f hg73 hx
      refine gs rfl (isB_no hg73) rfl ?_
      refine gs rfl (isB_no hg73) rfl ?_
      refine gs rfl (isB_no hg73) rfl ?_
      refine wv rfl (p_f rfl hg73 rfl) ?_
      obtain rfl := Option.some.inj hx
      exact mid_nil () ⟨rfl, trivial⟩ hM
  rintro _ w87 hM
  replace hx := hx80
  refine wv rfl (r_assign rfl) ?_
  refine wl_nil ?_
  refine sq_n ?_
  refine wc_ret ?_
  obtain rfl := Option.some.inj hx
  refine fin_ret [(.bool c72)] ⟨rfl, trivial⟩ ?_
  replace hM : St ⟨w, X, S⟩ [] [rV s_e_2.v (cSl 3 fDPart e.o)] _ := hM.tk 0
  have hM := hM.fewer rsN
  exact ⟨(), rfl, hM.gives⟩

noncomputable def x_impl_opsOf_b0 (_list : List DEntry) (_k35 : Nat) (x93 : DEntry) (out36 : List (List DPart)) : Option (Lr (List (List DPart)) (List (List DPart))) :=
  Option.bind (x_impl_copyOp (x93.o)) fun r81 => xg (out36.length < 1099511627776) <| some (Lr.go (out36 ++ [r81]))
noncomputable def x_impl_opsOf_f0 (list : List DEntry) (k35 : Nat) (s94 : List (List DPart)) : Option (Lr (List (List DPart)) (List (List DPart))) := x_impl_opsOf_b0 list k35 (el list k35) s94
noncomputable def x_impl_opsOf (list : List DEntry) : Option (List (List DPart)) :=
  Option.bind (eachN (x_impl_opsOf_f0 list) (fun (s94 : List (List DPart)) => (s94 : List (List DPart))) list.length 0 []) fun (y95 : List (List DPart)) => some y95
theorem ct_impl_opsOf (w : World) (X S : Bs) (list : List DEntry) (s_list : Sv) (hS : ∀ b, S b → b < w.heap.size ∧ ¬ X b) (a_list_0 : (cSl 3 fDEntry list).rd S w s_list.v) (oL : Sep [] X w) {r : List (List DPart)} (hx : x_impl_opsOf list = some r) :
    Ret Try.prog 87 [s_list.v] w (fun u w' => ∃ y : Sv, u = y.v ∧ Gives X S w [oC (cSl 1 fLDPart r) y.v] [] w') := by
  unfold x_impl_opsOf at hx
  refine enter Try.func87 rfl Try.ntmps87 (by kernel_rfl) rfl ?_
  have hM := St.enter oL hS
  have hM := hM.addE (r := rV s_list.v (cSl 3 fDEntry list)) a_list_0
  refine wc_seq ?_
  refine wc_region ?_
  refine wv rfl (r_assign rfl) ?_
  refine wl_nil ?_
  refine sq_n ?_
  refine wc_seq ?_
  refine wc_region ?_
  refine wv rfl (r_assign rfl) ?_
  refine wl_nil ?_
  refine sq_n ?_
  refine wc_seq ?_
  refine wc_seq ?_
  refine wc_region ?_
  refine wv rfl (r_move rfl) ?_
  refine wv rfl (r_lenC Try.underlying44 rfl (hM.seeR (.head _))) ?_
  refine wv rfl (r_move rfl) ?_
  refine wl_nil ?_
  refine sq_n ?_
  refine wc_block ?_
  obtain ⟨y105, hx, hx106⟩ := bind_some' hx
  have hM := hM.nil0 (T := List DPart) 1 fLDPart
  have hl114 := Cs.le (hM.seeR (.head _))
  refine wc_loop (un fun (m111 : Nat) => un fun (k112 : Nat) => un fun (out108 : List (List DPart)) => fun (s110 : Sv) => [(3, s110.v), (6, s_list.v), (7, (.int .i64 (list.length : Int))), (8, (.int .i64 (k112 : Int)))]) (un fun (m111 : Nat) => un fun (k112 : Nat) => un fun (out108 : List (List DPart)) => fun (s110 : Sv) w' => St ⟨w, X, S⟩ [oC (cSl 1 fLDPart out108) s110.v] [rV s_list.v (cSl 3 fDEntry list)] w' ∧ eachN _ _ m111 k112 out108 = some y105 ∧ k112 + m111 = list.length) (fun p => p.1) (list.length, 0, [], nS) ⟨rfl, rfl, rfl, rfl, trivial⟩ ⟨hM, hx, Nat.zero_add _⟩ ?_
  rintro ⟨m111, k112, out108, s110⟩ w115 ⟨hM, hx, hk113⟩
  refine wc_seq ?_
  refine wc_region ?_
  refine wv rfl (r_lss rfl rfl) ?_
  refine wl_nil ?_
  refine sq_n ?_
  refine wc_seq ?_
  refine wc_cond rfl (fun hc117 => ?_) (fun hc117 => ?_)
  · replace hc117 := of_decide_eq_true hc117
    obtain ⟨m118, z119, rfl, hk113, hx, hx120⟩ := eachN_step hx hk113 hc117
    unfold x_impl_opsOf_f0 x_impl_opsOf_b0 at hx
    try dsimp only at hx
    refine wc_skip ?_
    refine sq_n ?_
    refine wc_seq ?_
    refine wc_block ?_
    refine wc_seq ?_
    refine wc_region ?_
    have hi122 : k112 < list.length := by omega
    refine wv rfl (r_ixC Try.underlying44 sz107 rfl rfl (hM.seeR (.head _)) ⟨by omega, hc117⟩) ?_
    obtain ⟨s124, hM, hc125⟩ := hM.leaf (i := k112) (j := 2) (.head _) (fun _ => rfl) hi122 rfl
    refine wv rfl (r_ldC (o := k112 * 3) Try.underlying107 sz107 rfl (us := [(.int .i64 ((el list k112).client)), (.int .i64 ((el list k112).seq)), s124.v]) rfl (hM.seeR (.tail _ (.head _))) hi122 ⟨(Cs.get (i := k112) (j := 0) (hM.seeR (.tail _ (.head _))) (fun _ => rfl) hi122 rfl), (Cs.get (i := k112) (j := 1) (hM.seeR (.tail _ (.head _))) (fun _ => rfl) hi122 rfl), (hc125 _ (Rel.refl _)), trivial⟩) ?_
    refine w_ex rfl (x_alloc sz107 hM ?_); intro b127 w126 hR128 hM
    replace hM : St ⟨w, X, S⟩ [oBox b127 #[(.int .i64 0), (.int .i64 0), (.slice none 0 0)] 107, oC (cSl 1 fLDPart out108) s110.v] [rV s124.v (cSl 3 fDPart ((el list k112).o)), rV s_list.v (cSl 3 fDEntry list)] _ := hM
    refine w_exu (x_stB #[(.int .i64 ((el list k112).client)), (.int .i64 ((el list k112).seq)), s124.v] sz107 rfl rfl rfl rfl rfl rfl hM ?_); intro w130 hM
    refine wl_nil ?_
    refine sq_n ?_
    refine wc_region ?_
    refine wv rfl (r_move rfl) ?_
    refine wv rfl (r_fld Try.underlying107 rfl rfl sz31 rfl) ?_
    refine wv rfl (r_ldB Try.underlying31 rfl rfl hM (.head _) rfl) ?_
    obtain ⟨r135, h136, hx⟩ := bind_some' hx
    refine w_call rfl rfl (hM.callO (l := []) fun X S oL hS hR hO => ct_impl_copyOp _ X S ((el list k112).o) s124 hS (hR _ (.head _)) oL h136) ?_
    rintro _ w137 ⟨s138, rfl, hM⟩
    replace hM : St ⟨w, X, S⟩ [oC (cSl 3 fDPart r135) s138.v, oBox b127 #[(.int .i64 ((el list k112).client)), (.int .i64 ((el list k112).seq)), s124.v] 107, oC (cSl 1 fLDPart out108) s110.v] [rV s124.v (cSl 3 fDPart ((el list k112).o)), rV s_list.v (cSl 3 fDEntry list)] _ := hM
    replace hM : St ⟨w, X, S⟩ [oC (cSl 1 fLDPart out108) s110.v, oC (cSl 3 fDPart r135) s138.v, oBox b127 #[(.int .i64 ((el list k112).client)), (.int .i64 ((el list k112).seq)), s124.v] 107] [rV s124.v (cSl 3 fDPart ((el list k112).o)), rV s_list.v (cSl 3 fDEntry list)] _ := hM.pl [0, 2]
    obtain ⟨hg143, hx⟩ := xg_some hx
    refine w_push (f := fLDPart) r135 rfl rfl Try.underlying34 sz31 rfl rfl rfl rfl (fun _ => rfl) hM (fun _ => zO zN) rfl hg143 rfl ?_; intro u141 s142 w140 hM
    refine wv rfl (r_assign rfl) ?_
    refine wl_nil ?_
    refine bk_n ?_
    refine sq_n ?_
    refine wc_region ?_
    refine wv rfl (r_add rfl rfl ⟨by omega, by omega⟩) ?_
    refine wv rfl (r_move rfl) ?_
    refine wl_nil ?_
    obtain rfl := Option.some.inj hx
    replace hM : St ⟨w, X, S⟩ [oC (cSl 1 fLDPart (out108 ++ [r135])) s142.v] [rV s124.v (cSl 3 fDPart ((el list k112).o)), rV s_list.v (cSl 3 fDEntry list)] _ := hM.tk 1
    have hM := hM.fewer (rsC (.tail _ (.head _)) rsN)
    replace hM : St ⟨w, X, S⟩ [oC (cSl 1 fLDPart (out108 ++ [r135])) s142.v] [rV s_list.v (cSl 3 fDEntry list)] _ := hM
    exact lp_end (m118, k112 + 1, out108 ++ [r135], s142) (Nat.lt_succ_self _) ⟨rfl, rfl, rfl, rfl, trivial⟩ ⟨hM, hx120, hk113⟩
  · replace hc117 := of_decide_eq_false hc117
    obtain rfl := eachN_end hx hk113 hc117
    refine wc_exit ?_
    refine sq_exit ?_
    refine lp1_exit ?_
    replace hx := hx106
    try dsimp only [Sum.elim_inl, Sum.elim_inr] at hx
    refine bk_here ?_
    refine sq_n ?_
    refine wc_seq ?_
    refine wc_region ?_
    refine wv rfl (r_move rfl) ?_
    refine wv rfl (r_assign rfl) ?_
    refine wl_nil ?_
    refine sq_n ?_
    refine wc_ret ?_
    obtain rfl := Option.some.inj hx
    refine fin_ret [s110.v] ⟨rfl, trivial⟩ ?_
    replace hM : St ⟨w, X, S⟩ [oC (cSl 1 fLDPart out108) s110.v] [rV s_list.v (cSl 3 fDEntry list)] _ := hM.tk 1
    have hM := hM.fewer rsN
    exact ⟨s110, rfl, hM.gives⟩

noncomputable def x_impl_ApplyAll_b0 (_l : List (List DPart)) (_k21 : Nat) (x79 : List DPart) (out22 : List Int) : Option (Lr (List Int) (Sum (List Int) Unit)) :=
  Option.bind (x_impl_Apply x79 out22) fun r61 => bif !r61.2 then (some (Lr.out (Sum.inr (())))) else (some (Lr.go r61.1))
noncomputable def x_impl_ApplyAll_f0 (l : List (List DPart)) (k21 : Nat) (s80 : List Int) : Option (Lr (List Int) (Sum (List Int) Unit)) := x_impl_ApplyAll_b0 l k21 (el l k21) s80
noncomputable def x_impl_ApplyAll (l : List (List DPart)) (t : List Int) : Option (List Int × Bool) :=
  Option.bind (x_impl_TextOk t) fun r4 => bif !r4 then (some ([], false)) else (Option.bind (x_impl_copyInts t) fun r12 => Option.bind (eachN (x_impl_ApplyAll_f0 l) (fun (s80 : List Int) => (Sum.inl s80 : Sum (List Int) Unit)) l.length 0 r12) fun (y81 : Sum (List Int) Unit) => Sum.elim (fun y82 => some (y82, true)) (fun _y83 => some ([], false)) y81)
theorem ct_impl_ApplyAll (w : World) (X S : Bs) (l : List (List DPart)) (s_l : Sv) (t : List Int) (s_t : Sv) (hS : ∀ b, S b → b < w.heap.size ∧ ¬ X b) (a_l_0 : (cSl 1 fLDPart l).rd S w s_l.v) (a_t_0 : (cSl 1 fI t).rd S w s_t.v) (oL : Sep [] X w) {r : List Int × Bool} (hx : x_impl_ApplyAll l t = some r) :
    Ret Try.prog 53 [s_l.v, s_t.v] w (fun u w' => ∃ y : Sv, u = .tuple #[y.v, (.bool r.2)] ∧ Gives X S w [oC (cSl 1 fI r.1) y.v] [] w') := by
  unfold x_impl_ApplyAll at hx
  refine enter Try.func53 rfl Try.ntmps53 (by kernel_rfl) rfl ?_
  have hM := St.enter oL hS
  have hM := hM.addE (r := rV s_l.v (cSl 1 fLDPart l)) a_l_0
  have hM := hM.addE (r := rV s_t.v (cSl 1 fI t)) a_t_0
  refine wc_seq ?_
  refine wc_region ?_
  refine wv rfl (r_assign rfl) ?_
  refine wv rfl (r_assign rfl) ?_
  refine wl_nil ?_
  refine sq_n ?_
  refine wc_seq ?_
  refine wc_seq ?_
  refine wc_region ?_
  refine wv rfl (r_move rfl) ?_
  obtain ⟨r92, h93, hx⟩ := bind_some' hx
  refine w_call rfl rfl (hM.callV fun X S oL hS hR hO => ct_impl_TextOk _ X S t s_t hS (hR _ (.head _)) oL h93) ?_
  rintro _ w94 ⟨rfl, hR95⟩
  have hM := hM.call hR95
  refine wv rfl (r_not rfl) ?_
  refine wl_nil ?_
  refine sq_n ?_
  refine wc_cond rfl (fun hc97 => ?_) (fun hc97 => ?_)
  · replace hx := xif_t hc97 hx
    refine wc_seq ?_
    refine wc_region ?_
    refine wv rfl (r_assign rfl) ?_
    refine wv rfl (r_assign rfl) ?_
    refine wl_nil ?_
    refine sq_n ?_
    refine wc_ret ?_
    refine sq_ret ?_
    obtain rfl := Option.some.inj hx
    have hM := hM.nil0 (T := Int) 1 fI
    refine fin_ret [nS.v, (.bool false)] ⟨rfl, rfl, trivial⟩ ?_
    replace hM : St ⟨w, X, S⟩ [oC (cSl 1 fI ([] : List Int)) nS.v] [rV s_t.v (cSl 1 fI t), rV s_l.v (cSl 1 fLDPart l)] _ := hM.tk 1
    have hM := hM.fewer rsN
    exact ⟨nS, rfl, hM.gives⟩
  · replace hx := xif_f hc97 hx
    refine wc_skip ?_
    refine sq_n ?_
    refine wc_seq ?_
    refine wc_region ?_
    refine wv rfl (r_move rfl) ?_
    obtain ⟨r102, h103, hx⟩ := bind_some' hx
    refine w_call rfl rfl (hM.callO (l := []) fun X S oL hS hR hO => ct_impl_copyInts _ X S t s_t hS (hR _ (.head _)) oL h103) ?_
    rintro _ w104 ⟨s105, rfl, hM⟩
    replace hM : St ⟨w, X, S⟩ [oC (cSl 1 fI r102) s105.v] [rV s_t.v (cSl 1 fI t), rV s_l.v (cSl 1 fLDPart l)] _ := hM
    refine wv rfl (r_assign rfl) ?_
    refine wl_nil ?_
    refine sq_n ?_
    refine wc_seq ?_
    refine wc_seq ?_
    refine wc_region ?_
    refine wv rfl (r_move rfl) ?_
    refine wv rfl (r_lenC Try.underlying34 rfl (hM.seeR (.tail _ (.head _)))) ?_
    refine wv rfl (r_move rfl) ?_
    refine wl_nil ?_
    refine sq_n ?_
    refine wc_block ?_
    obtain ⟨y111, hx, hx112⟩ := bind_some' hx
    have hM := hM.fewer (rsC (.tail _ (.head _)) rsN)
    replace hM : St ⟨w, X, S⟩ [oC (cSl 1 fI r102) s105.v] [rV s_l.v (cSl 1 fLDPart l)] _ := hM
    have hl119 := Cs.le (hM.seeR (.head _))
    refine wc_loop (un fun (m116 : Nat) => un fun (k117 : Nat) => un fun (out113 : List Int) => fun (s115 : Sv) => [(6, s115.v), (16, s_l.v), (17, (.int .i64 (l.length : Int))), (18, (.int .i64 (k117 : Int)))]) (un fun (m116 : Nat) => un fun (k117 : Nat) => un fun (out113 : List Int) => fun (s115 : Sv) w' => St ⟨w, X, S⟩ [oC (cSl 1 fI out113) s115.v] [rV s_l.v (cSl 1 fLDPart l)] w' ∧ eachN _ _ m116 k117 out113 = some y111 ∧ k117 + m116 = l.length) (fun p => p.1) (l.length, 0, r102, s105) ⟨rfl, rfl, rfl, rfl, trivial⟩ ⟨hM, hx, Nat.zero_add _⟩ ?_
    rintro ⟨m116, k117, out113, s115⟩ w120 ⟨hM, hx, hk118⟩
    refine wc_seq ?_
    refine wc_region ?_
    refine wv rfl (r_lss rfl rfl) ?_
    refine wl_nil ?_
    refine sq_n ?_
    refine wc_seq ?_
    refine wc_cond rfl (fun hc122 => ?_) (fun hc122 => ?_)
    · replace hc122 := of_decide_eq_true hc122
      obtain ⟨m123, z124, rfl, hk118, hx, hx125⟩ := eachN_step hx hk118 hc122
      unfold x_impl_ApplyAll_f0 x_impl_ApplyAll_b0 at hx
      try dsimp only at hx
      refine wc_skip ?_
      refine sq_n ?_
      refine wc_seq ?_
      refine wc_block ?_
      refine wc_seq ?_
      refine wc_region ?_
      have hi127 : k117 < l.length := by omega
      refine wv rfl (r_ixC Try.underlying34 sz31 rfl rfl (hM.seeR (.head _)) ⟨by omega, hc122⟩) ?_
      obtain ⟨s129, hM, hc130⟩ := hM.leaf (i := k117) (j := 0) (.head _) (fun _ => rfl) hi127 rfl
      refine wv rfl (r_ld Try.underlying31 rfl rfl (hc130 _ (Rel.refl _))) ?_
      refine wv rfl (r_assign rfl) ?_
      refine wl_nil ?_
      refine sq_n ?_
      refine wc_seq ?_
      refine wc_region ?_
      refine wv rfl (r_move rfl) ?_
      refine wv rfl (r_move rfl) ?_
      obtain ⟨r134, h135, hx⟩ := bind_some' hx
      refine w_call rfl rfl (hM.callO (l := []) fun X S oL hS hR hO => ct_impl_Apply _ X S (el l k117) s129 out113 s115 hS (hR _ (.head _)) (seeA hO (.head _)) oL h135) ?_
      rintro _ w136 ⟨s137, rfl, hM⟩
      replace hM : St ⟨w, X, S⟩ [oC (cSl 1 fI r134.1) s137.v, oC (cSl 1 fI out113) s115.v] [rV s129.v (cSl 3 fDPart (el l k117)), rV s_l.v (cSl 1 fLDPart l)] _ := hM
      refine wv rfl (r_move rfl) ?_
      refine wv rfl (r_extract rfl rfl) ?_
      refine wv rfl (r_extract rfl rfl) ?_
      refine wv rfl (r_assign rfl) ?_
      refine wv rfl (r_assign rfl) ?_
      refine wl_nil ?_
      refine sq_n ?_
      refine wc_seq ?_
      refine wc_seq ?_
      refine wc_region ?_
      refine wv rfl (r_move rfl) ?_
      refine wv rfl (r_not rfl) ?_
      refine wl_nil ?_
      refine sq_n ?_
      refine wc_cond rfl (fun hc146 => ?_) (fun hc146 => ?_)
      · replace hx := xif_t hc146 hx
        refine wc_seq ?_
        refine wc_region ?_
        refine wv rfl (r_assign rfl) ?_
        refine wv rfl (r_assign rfl) ?_
        refine wl_nil ?_
        refine sq_n ?_
        refine wc_ret ?_
        refine sq_ret ?_
        refine bk_ret ?_
        refine sq_ret ?_
        refine lp1_ret ?_
        obtain rfl := Option.some.inj hx
        obtain rfl := Option.some.inj hx125
        replace hx := hx112
        try dsimp only [Sum.elim_inl, Sum.elim_inr] at hx
        refine bk_ret ?_
        refine sq_ret ?_
        obtain rfl := Option.some.inj hx
        have hM := hM.nil0 (T := Int) 1 fI
        refine fin_ret [nS.v, (.bool false)] ⟨rfl, rfl, trivial⟩ ?_
        replace hM : St ⟨w, X, S⟩ [oC (cSl 1 fI ([] : List Int)) nS.v] [rV s129.v (cSl 3 fDPart (el l k117)), rV s_l.v (cSl 1 fLDPart l)] _ := hM.tk 1
        have hM := hM.fewer rsN
        exact ⟨nS, rfl, hM.gives⟩
      · replace hx := xif_f hc146 hx
        refine wc_skip ?_
        refine sq_n ?_
        refine wc_region ?_
        refine wv rfl (r_move rfl) ?_
        refine wv rfl (r_assign rfl) ?_
        refine wl_nil ?_
        refine bk_n ?_
        refine sq_n ?_
        refine wc_region ?_
        refine wv rfl (r_add rfl rfl ⟨by omega, by omega⟩) ?_
        refine wv rfl (r_move rfl) ?_
        refine wl_nil ?_
        obtain rfl := Option.some.inj hx
        replace hM : St ⟨w, X, S⟩ [oC (cSl 1 fI r134.1) s137.v] [rV s129.v (cSl 3 fDPart (el l k117)), rV s_l.v (cSl 1 fLDPart l)] _ := hM.tk 1
        have hM := hM.fewer (rsC (.tail _ (.head _)) rsN)
        replace hM : St ⟨w, X, S⟩ [oC (cSl 1 fI r134.1) s137.v] [rV s_l.v (cSl 1 fLDPart l)] _ := hM
        exact lp_end (m123, k117 + 1, r134.1, s137) (Nat.lt_succ_self _) ⟨rfl, rfl, rfl, rfl, trivial⟩ ⟨hM, hx125, hk118⟩
    · replace hc122 := of_decide_eq_false hc122
      obtain rfl := eachN_end hx hk118 hc122
      refine wc_exit ?_
      refine sq_exit ?_
      refine lp1_exit ?_
      replace hx := hx112
      try dsimp only [Sum.elim_inl, Sum.elim_inr] at hx
      refine bk_here ?_
      refine sq_n ?_
      refine wc_seq ?_
      refine wc_region ?_
      refine wv rfl (r_move rfl) ?_
      refine wv rfl (r_assign rfl) ?_
      refine wv rfl (r_assign rfl) ?_
      refine wl_nil ?_
      refine sq_n ?_
      refine wc_ret ?_
      obtain rfl := Option.some.inj hx
      refine fin_ret [s115.v, (.bool true)] ⟨rfl, rfl, trivial⟩ ?_
      replace hM : St ⟨w, X, S⟩ [oC (cSl 1 fI out113) s115.v] [rV s_l.v (cSl 1 fLDPart l)] _ := hM.tk 1
      have hM := hM.fewer rsN
      exact ⟨s115, rfl, hM.gives⟩

noncomputable def x_impl_Fold_b0 (_l : List DEntry) (_k6 : Nat) (x51 : DEntry) : Option (Lr Unit (Sum Unit Unit)) :=
  Option.bind (x_impl_EntryOk x51) fun r42 => bif !r42 then (some (Lr.out (Sum.inr (())))) else (some (Lr.go ()))
noncomputable def x_impl_Fold_f0 (l : List DEntry) (k6 : Nat) (_s52 : Unit) : Option (Lr Unit (Sum Unit Unit)) := x_impl_Fold_b0 l k6 (el l k6)
noncomputable def x_impl_Fold (t : List Int) (l : List DEntry) : Option (List Int × Bool) :=
  Option.bind (eachN (x_impl_Fold_f0 l) (fun (_s52 : Unit) => (Sum.inl () : Sum Unit Unit)) l.length 0 ()) fun (y53 : Sum Unit Unit) => Sum.elim (fun _y54 => Option.bind (x_impl_opsOf l) fun r57 => Option.bind (x_impl_ApplyAll r57 t) fun r63 => some (r63.1, r63.2)) (fun _y55 => some ([], false)) y53
theorem ct_impl_Fold (w : World) (X S : Bs) (t : List Int) (s_t : Sv) (l : List DEntry) (s_l : Sv) (hS : ∀ b, S b → b < w.heap.size ∧ ¬ X b) (a_t_0 : (cSl 1 fI t).rd S w s_t.v) (a_l_0 : (cSl 3 fDEntry l).rd S w s_l.v) (oL : Sep [] X w) {r : List Int × Bool} (hx : x_impl_Fold t l = some r) :
    Ret Try.prog 31 [s_t.v, s_l.v] w (fun u w' => ∃ y : Sv, u = .tuple #[y.v, (.bool r.2)] ∧ Gives X S w [oC (cSl 1 fI r.1) y.v] [] w') := by
  unfold x_impl_Fold at hx
  refine enter Try.func31 rfl Try.ntmps31 (by kernel_rfl) rfl ?_
  have hM := St.enter oL hS
  have hM := hM.addE (r := rV s_t.v (cSl 1 fI t)) a_t_0
  have hM := hM.addE (r := rV s_l.v (cSl 3 fDEntry l)) a_l_0
  refine wc_seq ?_
  refine wc_region ?_
  refine wv rfl (r_assign rfl) ?_
  refine wv rfl (r_assign rfl) ?_
  refine wl_nil ?_
  refine sq_n ?_
  refine wc_seq ?_
  refine wc_seq ?_
  refine wc_region ?_
  refine wv rfl (r_move rfl) ?_
  refine wv rfl (r_lenC Try.underlying44 rfl (hM.seeR (.head _))) ?_
  refine wv rfl (r_move rfl) ?_
  refine wl_nil ?_
  refine sq_n ?_
  refine wc_block ?_
  obtain ⟨y77, hx, hx78⟩ := bind_some' hx
  have hM := hM.fewer (rsC (.tail _ (.head _)) (rsC (.head _) rsN))
  replace hM : St ⟨w, X, S⟩ [] [rV s_t.v (cSl 1 fI t), rV s_l.v (cSl 3 fDEntry l)] _ := hM
  have hl82 := Cs.le (hM.seeR (.tail _ (.head _)))
  refine wc_loop (un fun (m79 : Nat) => fun (k80 : Nat) => [(0, s_t.v), (1, s_l.v), (8, s_l.v), (9, (.int .i64 (l.length : Int))), (10, (.int .i64 (k80 : Int)))]) (un fun (m79 : Nat) => fun (k80 : Nat) w' => St ⟨w, X, S⟩ [] [rV s_t.v (cSl 1 fI t), rV s_l.v (cSl 3 fDEntry l)] w' ∧ eachN _ _ m79 k80 () = some y77 ∧ k80 + m79 = l.length) (fun p => p.1) (l.length, 0) ⟨rfl, rfl, rfl, rfl, rfl, trivial⟩ ⟨hM, hx, Nat.zero_add _⟩ ?_
  rintro ⟨m79, k80⟩ w83 ⟨hM, hx, hk81⟩
  refine wc_seq ?_
  refine wc_region ?_
  refine wv rfl (r_lss rfl rfl) ?_
  refine wl_nil ?_
  refine sq_n ?_
  refine wc_seq ?_
  refine wc_cond rfl (fun hc85 => ?_) (fun hc85 => ?_)
  · replace hc85 := of_decide_eq_true hc85
    obtain ⟨m86, z87, rfl, hk81, hx, hx88⟩ := eachN_step hx hk81 hc85
    unfold x_impl_Fold_f0 x_impl_Fold_b0 at hx
    try dsimp only at hx
    refine wc_skip ?_
    refine sq_n ?_
    refine wc_seq ?_
    refine wc_block ?_
    refine wc_seq ?_
    refine wc_region ?_
    have hi90 : k80 < l.length := by omega
    refine wv rfl (r_ixC Try.underlying44 sz107 rfl rfl (hM.seeR (.tail _ (.head _))) ⟨by omega, hc85⟩) ?_
    obtain ⟨s92, hM, hc93⟩ := hM.leaf (i := k80) (j := 2) (.tail _ (.head _)) (fun _ => rfl) hi90 rfl
    refine wv rfl (r_ldC (o := k80 * 3) Try.underlying107 sz107 rfl (us := [(.int .i64 ((el l k80).client)), (.int .i64 ((el l k80).seq)), s92.v]) rfl (hM.seeR (.tail _ (.tail _ (.head _)))) hi90 ⟨(Cs.get (i := k80) (j := 0) (hM.seeR (.tail _ (.tail _ (.head _)))) (fun _ => rfl) hi90 rfl), (Cs.get (i := k80) (j := 1) (hM.seeR (.tail _ (.tail _ (.head _)))) (fun _ => rfl) hi90 rfl), (hc93 _ (Rel.refl _)), trivial⟩) ?_
    refine w_ex rfl (x_alloc sz107 hM ?_); intro b95 w94 hR96 hM
    replace hM : St ⟨w, X, S⟩ [oBox b95 #[(.int .i64 0), (.int .i64 0), (.slice none 0 0)] 107] [rV s92.v (cSl 3 fDPart ((el l k80).o)), rV s_t.v (cSl 1 fI t), rV s_l.v (cSl 3 fDEntry l)] _ := hM
    refine w_exu (x_stB #[(.int .i64 ((el l k80).client)), (.int .i64 ((el l k80).seq)), s92.v] sz107 rfl rfl rfl rfl rfl rfl hM ?_); intro w98 hM
    refine wl_nil ?_
    refine sq_n ?_
    refine wc_seq ?_
    refine wc_region ?_
    refine wv rfl (r_ldBS Try.underlying107 sz107 rfl (us := [(.int .i64 ((el l k80).client)), (.int .i64 ((el l k80).seq)), s92.v]) rfl hM (.head _) rfl) ?_
    obtain ⟨r101, h102, hx⟩ := bind_some' hx
    refine w_call rfl rfl (hM.callV fun X S oL hS hR hO => ct_impl_EntryOk _ X S (el l k80) s92 hS (hR _ (.head _)) oL h102) ?_
    rintro _ w103 ⟨rfl, hR104⟩
    have hM := hM.call hR104
    refine wv rfl (r_not rfl) ?_
    refine wl_nil ?_
    refine sq_n ?_
    refine wc_cond rfl (fun hc106 => ?_) (fun hc106 => ?_)
    · replace hx := xif_t hc106 hx
      refine wc_seq ?_
      refine wc_region ?_
      refine wv rfl (r_assign rfl) ?_
      refine wv rfl (r_assign rfl) ?_
      refine wl_nil ?_
      refine sq_n ?_
      refine wc_ret ?_
      refine bk_ret ?_
      refine sq_ret ?_
      refine lp1_ret ?_
      obtain rfl := Option.some.inj hx
      obtain rfl := Option.some.inj hx88
      replace hx := hx78
      try dsimp only [Sum.elim_inl, Sum.elim_inr] at hx
      refine bk_ret ?_
      refine sq_ret ?_
      obtain rfl := Option.some.inj hx
      have hM := hM.nil0 (T := Int) 1 fI
      refine fin_ret [nS.v, (.bool false)] ⟨rfl, rfl, trivial⟩ ?_
      replace hM : St ⟨w, X, S⟩ [oC (cSl 1 fI ([] : List Int)) nS.v] [rV s92.v (cSl 3 fDPart ((el l k80).o)), rV s_t.v (cSl 1 fI t), rV s_l.v (cSl 3 fDEntry l)] _ := hM.tk 1
      have hM := hM.fewer rsN
      exact ⟨nS, rfl, hM.gives⟩
    · replace hx := xif_f hc106 hx
      refine wc_skip ?_
      refine bk_n ?_
      refine sq_n ?_
      refine wc_region ?_
      refine wv rfl (r_add rfl rfl ⟨by omega, by omega⟩) ?_
      refine wv rfl (r_move rfl) ?_
      refine wl_nil ?_
      obtain rfl := Option.some.inj hx
      replace hM : St ⟨w, X, S⟩ [] [rV s92.v (cSl 3 fDPart ((el l k80).o)), rV s_t.v (cSl 1 fI t), rV s_l.v (cSl 3 fDEntry l)] _ := hM.tk 0
      have hM := hM.fewer (rsC (.tail _ (.head _)) (rsC (.tail _ (.tail _ (.head _))) rsN))
      replace hM : St ⟨w, X, S⟩ [] [rV s_t.v (cSl 1 fI t), rV s_l.v (cSl 3 fDEntry l)] _ := hM
      exact lp_end (m86, k80 + 1) (Nat.lt_succ_self _) ⟨rfl, rfl, rfl, rfl, rfl, trivial⟩ ⟨hM, hx88, hk81⟩
  · replace hc85 := of_decide_eq_false hc85
    obtain rfl := eachN_end hx hk81 hc85
    refine wc_exit ?_
    refine sq_exit ?_
    refine lp1_exit ?_
    replace hx := hx78
    try dsimp only [Sum.elim_inl, Sum.elim_inr] at hx
    refine bk_here ?_
    refine sq_n ?_
    refine wc_seq ?_
    refine wc_region ?_
    refine wv rfl (r_move rfl) ?_
    obtain ⟨r113, h114, hx⟩ := bind_some' hx
    refine w_call rfl rfl (hM.callO (l := []) fun X S oL hS hR hO => ct_impl_opsOf _ X S l s_l hS (hR _ (.tail _ (.head _))) oL h114) ?_
    rintro _ w115 ⟨s116, rfl, hM⟩
    replace hM : St ⟨w, X, S⟩ [oC (cSl 1 fLDPart r113) s116.v] [rV s_t.v (cSl 1 fI t), rV s_l.v (cSl 3 fDEntry l)] _ := hM
    refine wv rfl (r_move rfl) ?_
    obtain ⟨r119, h120, hx⟩ := bind_some' hx
    refine w_call rfl rfl (hM.callO (l := []) fun X S oL hS hR hO => ct_impl_ApplyAll _ X S r113 s116 t s_t hS (seeA hO (.head _)) (hR _ (.head _)) oL h120) ?_
    rintro _ w121 ⟨s122, rfl, hM⟩
    replace hM : St ⟨w, X, S⟩ [oC (cSl 1 fI r119.1) s122.v, oC (cSl 1 fLDPart r113) s116.v] [rV s_t.v (cSl 1 fI t), rV s_l.v (cSl 3 fDEntry l)] _ := hM
    refine wv rfl (r_extract rfl rfl) ?_
    refine wv rfl (r_extract rfl rfl) ?_
    refine wv rfl (r_assign rfl) ?_
    refine wv rfl (r_assign rfl) ?_
    refine wl_nil ?_
    refine sq_n ?_
    refine wc_ret ?_
    obtain rfl := Option.some.inj hx
    refine fin_ret [s122.v, (.bool r119.2)] ⟨rfl, rfl, trivial⟩ ?_
    replace hM : St ⟨w, X, S⟩ [oC (cSl 1 fI r119.1) s122.v] [rV s_t.v (cSl 1 fI t), rV s_l.v (cSl 3 fDEntry l)] _ := hM.tk 1
    have hM := hM.fewer rsN
    exact ⟨s122, rfl, hM.gives⟩

noncomputable def x_spec_EntryOk (e : DEntry) : Option Bool :=
  Option.bind (x_spec_l01In e.client 1 8) fun r8 => Option.bind (bif r8 then (Option.bind (x_spec_l01In e.seq 1 1000000000) fun r23 => some r23) else (some false)) fun c13 => Option.bind (bif c13 then (Option.bind (x_spec_IsNorm e.o) fun r38 => some r38) else (some false)) fun c28 => some c28
theorem ct_spec_EntryOk (w : World) (X S : Bs) (e : DEntry) (s_e_2 : Sv) (hS : ∀ b, S b → b < w.heap.size ∧ ¬ X b) (a_e_2 : (cSl 3 fDPart e.o).rd S w s_e_2.v) (oL : Sep [] X w) {r : Bool} (hx : x_spec_EntryOk e = some r) :
    Ret Try.prog 83 [(.agg #[(.int .i64 e.client), (.int .i64 e.seq), s_e_2.v])] w (fun u w' => ∃ _ : Unit, u = (.bool r) ∧ Gives X S w [] [] w') := by
  unfold x_spec_EntryOk at hx
  refine enter Try.func83 rfl Try.ntmps83 (by kernel_rfl) rfl ?_
  have hM := St.enter oL hS
  have hM := hM.addE (r := rV s_e_2.v (cSl 3 fDPart e.o)) a_e_2
  refine wc_seq ?_
  refine wc_region ?_
  refine w_ex rfl (x_box rfl hM ?_); intro b44 w43 hR45 hM
  replace hM : St ⟨w, X, S⟩ [oBox b44 #[(.int .i64 e.client), (.int .i64 e.seq), s_e_2.v] 107] [rV s_e_2.v (cSl 3 fDPart e.o)] _ := hM
  refine wv rfl (r_assign rfl) ?_
  refine wl_nil ?_
  refine sq_n ?_
  refine wc_seq ?_
  refine wc_region ?_
  refine wv rfl (r_fld Try.underlying107 rfl rfl sz3 rfl) ?_
  refine wv rfl (r_ldB Try.underlying3 rfl rfl hM (.head _) rfl) ?_
  obtain ⟨r50, h51, hx⟩ := bind_some' hx
  refine w_call rfl rfl (hM.callV fun X S oL hS hR hO => ct_spec_l01In _ X S e.client (1 : Int) (8 : Int) hS  oL h51) ?_
  rintro _ w52 ⟨rfl, hR53⟩
  have hM := hM.call hR53
  refine wv rfl (r_move rfl) ?_
  obtain ⟨c55, hx, hx63⟩ := bind_some' hx
  refine wl_mid 4 (fun _ : Unit => [(10, (.bool c55)), (1, (.pointer (some ⟨b44, 0, none⟩)))]) (fun _ w' => St ⟨w, X, S⟩ [oBox b44 #[(.int .i64 e.client), (.int .i64 e.seq), s_e_2.v] 107] [rV s_e_2.v (cSl 3 fDPart e.o)] w') ?_ ?_
  · rcases Bool.eq_false_or_eq_true r50 with hg56 | hg56
    · replace hx := xif_t hg56 hx
      refine gv rfl hg56 rfl (r_fld Try.underlying107 rfl rfl sz3 rfl) ?_
      refine gv rfl hg56 rfl (r_ldB Try.underlying3 rfl rfl hM (.head _) rfl) ?_
      obtain ⟨r66, h67, hx⟩ := bind_some' hx
      refine gc rfl hg56 rfl rfl (hM.callV fun X S oL hS hR hO => ct_spec_l01In _ X S e.seq (1 : Int) (1000000000 : Int) hS  oL h67) ?_
      rintro _ w68 ⟨rfl, hR69⟩
      have hM := hM.call hR69
      refine wv rfl (p_t rfl hg56 rfl) ?_
      obtain rfl := Option.some.inj hx
      exact mid_nil () ⟨rfl, rfl, trivial⟩ hM
    · replace hx := xif_f hg56 hx
      refine gs rfl (isB_no hg56) rfl ?_
      refine gs rfl (isB_no hg56) rfl ?_
      refine gs rfl (isB_no hg56) rfl ?_
      refine wv rfl (p_f rfl hg56 rfl) ?_
      obtain rfl := Option.some.inj hx
      exact mid_nil () ⟨rfl, rfl, trivial⟩ hM
  rintro _ w70 hM
  replace hx := hx63
  refine wv rfl (r_move rfl) ?_
  obtain ⟨c72, hx, hx80⟩ := bind_some' hx
  refine wl_mid 4 (fun _ : Unit => [(15, (.bool c72))]) (fun _ w' => St ⟨w, X, S⟩ [oBox b44 #[(.int .i64 e.client), (.int .i64 e.seq), s_e_2.v] 107] [rV s_e_2.v (cSl 3 fDPart e.o)] w') ?_ ?_
  · rcases Bool.eq_false_or_eq_true c55 with hg73 | hg73
    · replace hx := xif_t hg73 hx
      refine gv rfl hg73 rfl (r_fld Try.underlying107 rfl rfl sz31 rfl) ?_
      refine gv rfl hg73 rfl (r_ldB Try.underlying31 rfl rfl hM (.head _) rfl) ?_
      obtain ⟨r83, h84, hx⟩ := bind_some' hx
      refine gc rfl hg73 rfl rfl (hM.callV fun X S oL hS hR hO => ct_spec_IsNorm _ X S e.o s_e_2 hS (hR _ (.head _)) oL h84) ?_
      rintro _ w85 ⟨rfl, hR86⟩
      have hM := hM.call hR86
      refine wv rfl (p_t rfl hg73 rfl) ?_
      obtain rfl := Option.some.inj hx
      exact mid_nil () ⟨rfl, trivial⟩ hM
    · replace hx := xif_f hg73 hx
      refine gs rfl (isB_no hg73) rfl ?_
      refine gs rfl (isB_no hg73) rfl ?_
      refine gs rfl (isB_no hg73) rfl ?_
      refine wv rfl (p_f rfl hg73 rfl) ?_
      obtain rfl := Option.some.inj hx
      exact mid_nil () ⟨rfl, trivial⟩ hM
  rintro _ w87 hM
  replace hx := hx80
  refine wv rfl (r_assign rfl) ?_
  refine wl_nil ?_
  refine sq_n ?_
  refine wc_ret ?_
  obtain rfl := Option.some.inj hx
  refine fin_ret [(.bool c72)] ⟨rfl, trivial⟩ ?_
  replace hM : St ⟨w, X, S⟩ [] [rV s_e_2.v (cSl 3 fDPart e.o)] _ := hM.tk 0
  have hM := hM.fewer rsN
  exact ⟨(), rfl, hM.gives⟩

noncomputable def x_spec_Fold_b0 (_l : List DEntry) (_k16 : Nat) (x116 : DEntry) (out17 : List Int) : Option (Lr (List Int) (Sum (List Int) Unit)) :=
  Option.bind (x_spec_Apply (x116.o) out17) fun r83 => Option.bind (bif !r83.2 then (some true) else (Option.bind (x_spec_EntryOk x116) fun r105 => some (!r105))) fun c96 => bif c96 then (some (Lr.out (Sum.inr (())))) else (some (Lr.go r83.1))
noncomputable def x_spec_Fold_f0 (l : List DEntry) (k16 : Nat) (s117 : List Int) : Option (Lr (List Int) (Sum (List Int) Unit)) := x_spec_Fold_b0 l k16 (el l k16) s117
noncomputable def x_spec_Fold (t : List Int) (l : List DEntry) : Option (List Int × Bool) :=
  xg (0 + t.length ≤ 1099511627776) <| Option.bind (eachN (x_spec_Fold_f0 l) (fun (s117 : List Int) => (Sum.inl s117 : Sum (List Int) Unit)) l.length 0 ([] ++ t)) fun (y118 : Sum (List Int) Unit) => Sum.elim (fun y119 => Option.bind (x_spec_TextOk t) fun r124 => bif !r124 then (some ([], false)) else (some (y119, true))) (fun _y120 => some ([], false)) y118
theorem ct_spec_Fold (w : World) (X S : Bs) (t : List Int) (s_t : Sv) (l : List DEntry) (s_l : Sv) (hS : ∀ b, S b → b < w.heap.size ∧ ¬ X b) (a_t_0 : (cSl 1 fI t).rd S w s_t.v) (a_l_0 : (cSl 3 fDEntry l).rd S w s_l.v) (oL : Sep [] X w) {r : List Int × Bool} (hx : x_spec_Fold t l = some r) :
    Ret Try.prog 29 [s_t.v, s_l.v] w (fun u w' => ∃ y : Sv, u = .tuple #[y.v, (.bool r.2)] ∧ Gives X S w [oC (cSl 1 fI r.1) y.v] [] w') := by
  unfold x_spec_Fold at hx
  refine enter Try.func29 rfl Try.ntmps29 (by kernel_rfl) rfl ?_
  have hM := St.enter oL hS
  have hM := hM.addE (r := rV s_t.v (cSl 1 fI t)) a_t_0
  have hM := hM.addE (r := rV s_l.v (cSl 3 fDEntry l)) a_l_0
  refine wc_seq ?_
  refine wc_region ?_
  refine wv rfl (r_assign rfl) ?_
  refine wv rfl (r_assign rfl) ?_
  refine wl_nil ?_
  refine sq_n ?_
  refine wc_seq ?_
  refine wc_region ?_
  refine w_ex rfl (x_empty (f := fI) Try.underlying22 sz3 (fun _ => rfl) hM ?_); intro s137 w136 hR138 hM
  refine wv rfl (r_move rfl) ?_
  obtain ⟨hg143, hx⟩ := xg_some hx
  refine w_ex rfl (x_append Try.underlying22 sz3 rfl rfl (hM.seeR (.tail _ (.head _))) flI hM hg143 rfl ?_); intro s142 w141 hM
  refine wv rfl (r_assign rfl) ?_
  refine wl_nil ?_
  refine sq_n ?_
  refine wc_seq ?_
  refine wc_seq ?_
  refine wc_region ?_
  refine wv rfl (r_move rfl) ?_
  refine wv rfl (r_lenC Try.underlying44 rfl (hM.seeR (.head _))) ?_
  refine wv rfl (r_move rfl) ?_
  refine wl_nil ?_
  refine sq_n ?_
  refine wc_block ?_
  obtain ⟨y149, hx, hx150⟩ := bind_some' hx
  have hM := hM.fewer (rsC (.tail _ (.head _)) (rsC (.head _) rsN))
  replace hM : St ⟨w, X, S⟩ [oC (cSl 1 fI ([] ++ t)) s142.v] [rV s_t.v (cSl 1 fI t), rV s_l.v (cSl 3 fDEntry l)] _ := hM
  have hl157 := Cs.le (hM.seeR (.tail _ (.head _)))
  refine wc_loop (un fun (m154 : Nat) => un fun (k155 : Nat) => un fun (out151 : List Int) => fun (s153 : Sv) => [(0, s_t.v), (6, s153.v), (14, s_l.v), (15, (.int .i64 (l.length : Int))), (16, (.int .i64 (k155 : Int)))]) (un fun (m154 : Nat) => un fun (k155 : Nat) => un fun (out151 : List Int) => fun (s153 : Sv) w' => St ⟨w, X, S⟩ [oC (cSl 1 fI out151) s153.v] [rV s_t.v (cSl 1 fI t), rV s_l.v (cSl 3 fDEntry l)] w' ∧ eachN _ _ m154 k155 out151 = some y149 ∧ k155 + m154 = l.length) (fun p => p.1) (l.length, 0, [] ++ t, s142) ⟨rfl, rfl, rfl, rfl, rfl, trivial⟩ ⟨hM, hx, Nat.zero_add _⟩ ?_
  rintro ⟨m154, k155, out151, s153⟩ w158 ⟨hM, hx, hk156⟩
  refine wc_seq ?_
  refine wc_region ?_
  refine wv rfl (r_lss rfl rfl) ?_
  refine wl_nil ?_
  refine sq_n ?_
  refine wc_seq ?_
  refine wc_cond rfl (fun hc160 => ?_) (fun hc160 => ?_)
  · replace hc160 := of_decide_eq_true hc160
    obtain ⟨m161, z162, rfl, hk156, hx, hx163⟩ := eachN_step hx hk156 hc160
    unfold x_spec_Fold_f0 x_spec_Fold_b0 at hx
    try dsimp only at hx
    refine wc_skip ?_
    refine sq_n ?_
    refine wc_seq ?_
    refine wc_block ?_
    refine wc_seq ?_
    refine wc_region ?_
    have hi165 : k155 < l.length := by omega
    refine wv rfl (r_ixC Try.underlying44 sz107 rfl rfl (hM.seeR (.tail _ (.head _))) ⟨by omega, hc160⟩) ?_
    obtain ⟨s167, hM, hc168⟩ := hM.leaf (i := k155) (j := 2) (.tail _ (.head _)) (fun _ => rfl) hi165 rfl
    refine wv rfl (r_ldC (o := k155 * 3) Try.underlying107 sz107 rfl (us := [(.int .i64 ((el l k155).client)), (.int .i64 ((el l k155).seq)), s167.v]) rfl (hM.seeR (.tail _ (.tail _ (.head _)))) hi165 ⟨(Cs.get (i := k155) (j := 0) (hM.seeR (.tail _ (.tail _ (.head _)))) (fun _ => rfl) hi165 rfl), (Cs.get (i := k155) (j := 1) (hM.seeR (.tail _ (.tail _ (.head _)))) (fun _ => rfl) hi165 rfl), (hc168 _ (Rel.refl _)), trivial⟩) ?_
    refine w_ex rfl (x_alloc sz107 hM ?_); intro b170 w169 hR171 hM
    replace hM : St ⟨w, X, S⟩ [oBox b170 #[(.int .i64 0), (.int .i64 0), (.slice none 0 0)] 107, oC (cSl 1 fI out151) s153.v] [rV s167.v (cSl 3 fDPart ((el l k155).o)), rV s_t.v (cSl 1 fI t), rV s_l.v (cSl 3 fDEntry l)] _ := hM
    refine w_exu (x_stB #[(.int .i64 ((el l k155).client)), (.int .i64 ((el l k155).seq)), s167.v] sz107 rfl rfl rfl rfl rfl rfl hM ?_); intro w173 hM
    refine wl_nil ?_
    refine sq_n ?_
    refine wc_seq ?_
    refine wc_region ?_
    refine wv rfl (r_fld Try.underlying107 rfl rfl sz31 rfl) ?_
    refine wv rfl (r_ldB Try.underlying31 rfl rfl hM (.head _) rfl) ?_
    refine wv rfl (r_move rfl) ?_
    obtain ⟨r178, h179, hx⟩ := bind_some' hx
    refine w_call rfl rfl (hM.callO (l := []) fun X S oL hS hR hO => ct_spec_Apply _ X S ((el l k155).o) s167 out151 s153 hS (hR _ (.head _)) (seeA hO (.tail _ (.head _))) oL h179) ?_
    rintro _ w180 ⟨s181, rfl, hM⟩
    replace hM : St ⟨w, X, S⟩ [oC (cSl 1 fI r178.1) s181.v, oBox b170 #[(.int .i64 ((el l k155).client)), (.int .i64 ((el l k155).seq)), s167.v] 107, oC (cSl 1 fI out151) s153.v] [rV s167.v (cSl 3 fDPart ((el l k155).o)), rV s_t.v (cSl 1 fI t), rV s_l.v (cSl 3 fDEntry l)] _ := hM
    refine wv rfl (r_move rfl) ?_
    refine wv rfl (r_extract rfl rfl) ?_
    refine wv rfl (r_extract rfl rfl) ?_
    refine wv rfl (r_assign rfl) ?_
    refine wv rfl (r_assign rfl) ?_
    refine wl_nil ?_
    refine sq_n ?_
    refine wc_seq ?_
    refine wc_seq ?_
    refine wc_region ?_
    refine wv rfl (r_move rfl) ?_
    refine wv rfl (r_not rfl) ?_
    refine wv rfl (r_move rfl) ?_
    obtain ⟨c191, hx, hx199⟩ := bind_some' hx
    refine wl_mid 4 (fun _ : Unit => [(33, (.bool c191)), (0, s_t.v), (9, s181.v), (14, s_l.v), (15, (.int .i64 (l.length : Int))), (16, (.int .i64 (k155 : Int)))]) (fun _ w' => St ⟨w, X, S⟩ [oC (cSl 1 fI r178.1) s181.v, oBox b170 #[(.int .i64 ((el l k155).client)), (.int .i64 ((el l k155).seq)), s167.v] 107, oC (cSl 1 fI out151) s153.v] [rV s167.v (cSl 3 fDPart ((el l k155).o)), rV s_t.v (cSl 1 fI t), rV s_l.v (cSl 3 fDEntry l)] w') ?_ ?_
    · rcases Bool.eq_false_or_eq_true (!r178.2) with hg192 | hg192
      · replace hx := xif_t hg192 hx
        refine gs rfl (isB_no hg192) rfl ?_
        refine gs rfl (isB_no hg192) rfl ?_
        refine gs rfl (isB_no hg192) rfl ?_
        refine wv rfl (p_t rfl hg192 rfl) ?_
        obtain rfl := Option.some.inj hx
        exact mid_nil () ⟨rfl, rfl, rfl, rfl, rfl, rfl, trivial⟩ hM
      · replace hx := xif_f hg192 hx
        refine gv rfl hg192 rfl (r_ldBS Try.underlying107 sz107 rfl (us := [(.int .i64 ((el l k155).client)), (.int .i64 ((el l k155).seq)), s167.v]) rfl hM (.tail _ (.head _)) rfl) ?_
        obtain ⟨r201, h202, hx⟩ := bind_some' hx
        refine gc rfl hg192 rfl rfl (hM.callV fun X S oL hS hR hO => ct_spec_EntryOk _ X S (el l k155) s167 hS (hR _ (.head _)) oL h202) ?_
        rintro _ w203 ⟨rfl, hR204⟩
        have hM := hM.call hR204
        refine gv rfl hg192 rfl (r_not rfl) ?_
        refine wv rfl (p_f rfl hg192 rfl) ?_
        obtain rfl := Option.some.inj hx
        exact mid_nil () ⟨rfl, rfl, rfl, rfl, rfl, rfl, trivial⟩ hM
    rintro _ w206 hM
    replace hx := hx199
    refine wl_nil ?_
    refine sq_n ?_
    refine wc_cond rfl (fun hc207 => ?_) (fun hc207 => ?_)
    · replace hx := xif_t hc207 hx
      refine wc_seq ?_
      refine wc_region ?_
      refine wv rfl (r_assign rfl) ?_
      refine wv rfl (r_assign rfl) ?_
      refine wl_nil ?_
      refine sq_n ?_
      refine wc_ret ?_
      refine sq_ret ?_
      refine bk_ret ?_
      refine sq_ret ?_
      refine lp1_ret ?_
      obtain rfl := Option.some.inj hx
      obtain rfl := Option.some.inj hx163
      replace hx := hx150
      try dsimp only [Sum.elim_inl, Sum.elim_inr] at hx
      refine bk_ret ?_
      refine sq_ret ?_
      obtain rfl := Option.some.inj hx
      have hM := hM.nil0 (T := Int) 1 fI
      refine fin_ret [nS.v, (.bool false)] ⟨rfl, rfl, trivial⟩ ?_
      replace hM : St ⟨w, X, S⟩ [oC (cSl 1 fI ([] : List Int)) nS.v] [rV s167.v (cSl 3 fDPart ((el l k155).o)), rV s_t.v (cSl 1 fI t), rV s_l.v (cSl 3 fDEntry l)] _ := hM.tk 1
      have hM := hM.fewer rsN
      exact ⟨nS, rfl, hM.gives⟩
    · replace hx := xif_f hc207 hx
      refine wc_skip ?_
      refine sq_n ?_
      refine wc_region ?_
      refine wv rfl (r_move rfl) ?_
      refine wv rfl (r_assign rfl) ?_
      refine wl_nil ?_
      refine bk_n ?_
      refine sq_n ?_
      refine wc_region ?_
      refine wv rfl (r_add rfl rfl ⟨by omega, by omega⟩) ?_
      refine wv rfl (r_move rfl) ?_
      refine wl_nil ?_
      obtain rfl := Option.some.inj hx
      replace hM : St ⟨w, X, S⟩ [oC (cSl 1 fI r178.1) s181.v] [rV s167.v (cSl 3 fDPart ((el l k155).o)), rV s_t.v (cSl 1 fI t), rV s_l.v (cSl 3 fDEntry l)] _ := hM.tk 1
      have hM := hM.fewer (rsC (.tail _ (.head _)) (rsC (.tail _ (.tail _ (.head _))) rsN))
      replace hM : St ⟨w, X, S⟩ [oC (cSl 1 fI r178.1) s181.v] [rV s_t.v (cSl 1 fI t), rV s_l.v (cSl 3 fDEntry l)] _ := hM
      exact lp_end (m161, k155 + 1, r178.1, s181) (Nat.lt_succ_self _) ⟨rfl, rfl, rfl, rfl, rfl, trivial⟩ ⟨hM, hx163, hk156⟩
  · replace hc160 := of_decide_eq_false hc160
    obtain rfl := eachN_end hx hk156 hc160
    refine wc_exit ?_
    refine sq_exit ?_
    refine lp1_exit ?_
    replace hx := hx150
    try dsimp only [Sum.elim_inl, Sum.elim_inr] at hx
    refine bk_here ?_
    refine sq_n ?_
    refine wc_seq ?_
    refine wc_seq ?_
    refine wc_region ?_
    refine wv rfl (r_move rfl) ?_
    obtain ⟨r216, h217, hx⟩ := bind_some' hx
    refine w_call rfl rfl (hM.callV fun X S oL hS hR hO => ct_spec_TextOk _ X S t s_t hS (hR _ (.head _)) oL h217) ?_
    rintro _ w218 ⟨rfl, hR219⟩
    have hM := hM.call hR219
    refine wv rfl (r_not rfl) ?_
    refine wl_nil ?_
    refine sq_n ?_
    refine wc_cond rfl (fun hc221 => ?_) (fun hc221 => ?_)
    · replace hx := xif_t hc221 hx
      refine wc_seq ?_
      refine wc_region ?_
      refine wv rfl (r_assign rfl) ?_
      refine wv rfl (r_assign rfl) ?_
      refine wl_nil ?_
      refine sq_n ?_
      refine wc_ret ?_
      refine sq_ret ?_
      obtain rfl := Option.some.inj hx
      have hM := hM.nil0 (T := Int) 1 fI
      refine fin_ret [nS.v, (.bool false)] ⟨rfl, rfl, trivial⟩ ?_
      replace hM : St ⟨w, X, S⟩ [oC (cSl 1 fI ([] : List Int)) nS.v] [rV s_t.v (cSl 1 fI t), rV s_l.v (cSl 3 fDEntry l)] _ := hM.tk 1
      have hM := hM.fewer rsN
      exact ⟨nS, rfl, hM.gives⟩
    · replace hx := xif_f hc221 hx
      refine wc_skip ?_
      refine sq_n ?_
      refine wc_seq ?_
      refine wc_region ?_
      refine wv rfl (r_move rfl) ?_
      refine wv rfl (r_assign rfl) ?_
      refine wv rfl (r_assign rfl) ?_
      refine wl_nil ?_
      refine sq_n ?_
      refine wc_ret ?_
      obtain rfl := Option.some.inj hx
      refine fin_ret [s153.v, (.bool true)] ⟨rfl, rfl, trivial⟩ ?_
      replace hM : St ⟨w, X, S⟩ [oC (cSl 1 fI out151) s153.v] [rV s_t.v (cSl 1 fI t), rV s_l.v (cSl 3 fDEntry l)] _ := hM.tk 1
      have hM := hM.fewer rsN
      exact ⟨s153, rfl, hM.gives⟩

noncomputable def x_impl_copyEntries_b0 (_list : List DEntry) (_k39 : Nat) (x105 : DEntry) (out40 : List DEntry) : Option (Lr (List DEntry) (List DEntry)) :=
  Option.bind (x_impl_copyOp (x105.o)) fun r88 => xg (out40.length < 1099511627776) <| some (Lr.go (out40 ++ [(⟨x105.client, x105.seq, r88⟩ : DEntry)]))
noncomputable def x_impl_copyEntries_f0 (list : List DEntry) (k39 : Nat) (s106 : List DEntry) : Option (Lr (List DEntry) (List DEntry)) := x_impl_copyEntries_b0 list k39 (el list k39) s106
noncomputable def x_impl_copyEntries (list : List DEntry) : Option (List DEntry) :=
  Option.bind (eachN (x_impl_copyEntries_f0 list) (fun (s106 : List DEntry) => (s106 : List DEntry)) list.length 0 []) fun (y107 : List DEntry) => some y107
theorem ct_impl_copyEntries (w : World) (X S : Bs) (list : List DEntry) (s_list : Sv) (hS : ∀ b, S b → b < w.heap.size ∧ ¬ X b) (a_list_0 : (cSl 3 fDEntry list).rd S w s_list.v) (oL : Sep [] X w) {r : List DEntry} (hx : x_impl_copyEntries list = some r) :
    Ret Try.prog 90 [s_list.v] w (fun u w' => ∃ y : Sv, u = y.v ∧ Gives X S w [oC (cSl 3 fDEntry r) y.v] [] w') := by
  unfold x_impl_copyEntries at hx
  refine enter Try.func90 rfl Try.ntmps90 (by kernel_rfl) rfl ?_
  have hM := St.enter oL hS
  have hM := hM.addE (r := rV s_list.v (cSl 3 fDEntry list)) a_list_0
  refine wc_seq ?_
  refine wc_region ?_
  refine wv rfl (r_assign rfl) ?_
  refine wl_nil ?_
  refine sq_n ?_
  refine wc_seq ?_
  refine wc_region ?_
  refine wv rfl (r_assign rfl) ?_
  refine wl_nil ?_
  refine sq_n ?_
  refine wc_seq ?_
  refine wc_seq ?_
  refine wc_region ?_
  refine wv rfl (r_move rfl) ?_
  refine wv rfl (r_lenC Try.underlying44 rfl (hM.seeR (.head _))) ?_
  refine wv rfl (r_move rfl) ?_
  refine wl_nil ?_
  refine sq_n ?_
  refine wc_block ?_
  obtain ⟨y117, hx, hx118⟩ := bind_some' hx
  have hM := hM.nil0 (T := DEntry) 3 fDEntry
  have hl126 := Cs.le (hM.seeR (.head _))
  refine wc_loop (un fun (m123 : Nat) => un fun (k124 : Nat) => un fun (out120 : List DEntry) => fun (s122 : Sv) => [(3, s122.v), (6, s_list.v), (7, (.int .i64 (list.length : Int))), (8, (.int .i64 (k124 : Int)))]) (un fun (m123 : Nat) => un fun (k124 : Nat) => un fun (out120 : List DEntry) => fun (s122 : Sv) w' => St ⟨w, X, S⟩ [oC (cSl 3 fDEntry out120) s122.v] [rV s_list.v (cSl 3 fDEntry list)] w' ∧ eachN _ _ m123 k124 out120 = some y117 ∧ k124 + m123 = list.length) (fun p => p.1) (list.length, 0, [], nS) ⟨rfl, rfl, rfl, rfl, trivial⟩ ⟨hM, hx, Nat.zero_add _⟩ ?_
  rintro ⟨m123, k124, out120, s122⟩ w127 ⟨hM, hx, hk125⟩
  refine wc_seq ?_
  refine wc_region ?_
  refine wv rfl (r_lss rfl rfl) ?_
  refine wl_nil ?_
  refine sq_n ?_
  refine wc_seq ?_
  refine wc_cond rfl (fun hc129 => ?_) (fun hc129 => ?_)
  · replace hc129 := of_decide_eq_true hc129
    obtain ⟨m130, z131, rfl, hk125, hx, hx132⟩ := eachN_step hx hk125 hc129
    unfold x_impl_copyEntries_f0 x_impl_copyEntries_b0 at hx
    try dsimp only at hx
    refine wc_skip ?_
    refine sq_n ?_
    refine wc_seq ?_
    refine wc_block ?_
    refine wc_seq ?_
    refine wc_region ?_
    have hi134 : k124 < list.length := by omega
    refine wv rfl (r_ixC Try.underlying44 sz107 rfl rfl (hM.seeR (.head _)) ⟨by omega, hc129⟩) ?_
    obtain ⟨s136, hM, hc137⟩ := hM.leaf (i := k124) (j := 2) (.head _) (fun _ => rfl) hi134 rfl
    refine wv rfl (r_ldC (o := k124 * 3) Try.underlying107 sz107 rfl (us := [(.int .i64 ((el list k124).client)), (.int .i64 ((el list k124).seq)), s136.v]) rfl (hM.seeR (.tail _ (.head _))) hi134 ⟨(Cs.get (i := k124) (j := 0) (hM.seeR (.tail _ (.head _))) (fun _ => rfl) hi134 rfl), (Cs.get (i := k124) (j := 1) (hM.seeR (.tail _ (.head _))) (fun _ => rfl) hi134 rfl), (hc137 _ (Rel.refl _)), trivial⟩) ?_
    refine w_ex rfl (x_alloc sz107 hM ?_); intro b139 w138 hR140 hM
    replace hM : St ⟨w, X, S⟩ [oBox b139 #[(.int .i64 0), (.int .i64 0), (.slice none 0 0)] 107, oC (cSl 3 fDEntry out120) s122.v] [rV s136.v (cSl 3 fDPart ((el list k124).o)), rV s_list.v (cSl 3 fDEntry list)] _ := hM
    refine w_exu (x_stB #[(.int .i64 ((el list k124).client)), (.int .i64 ((el list k124).seq)), s136.v] sz107 rfl rfl rfl rfl rfl rfl hM ?_); intro w142 hM
    refine wl_nil ?_
    refine sq_n ?_
    refine wc_seq ?_
    refine wc_region ?_
    refine wv rfl (r_fld Try.underlying107 rfl rfl sz31 rfl) ?_
    refine wv rfl (r_ldB Try.underlying31 rfl rfl hM (.head _) rfl) ?_
    obtain ⟨r146, h147, hx⟩ := bind_some' hx
    refine w_call rfl rfl (hM.callO (l := []) fun X S oL hS hR hO => ct_impl_copyOp _ X S ((el list k124).o) s136 hS (hR _ (.head _)) oL h147) ?_
    rintro _ w148 ⟨s149, rfl, hM⟩
    replace hM : St ⟨w, X, S⟩ [oC (cSl 3 fDPart r146) s149.v, oBox b139 #[(.int .i64 ((el list k124).client)), (.int .i64 ((el list k124).seq)), s136.v] 107, oC (cSl 3 fDEntry out120) s122.v] [rV s136.v (cSl 3 fDPart ((el list k124).o)), rV s_list.v (cSl 3 fDEntry list)] _ := hM
    refine wv rfl (r_fld Try.underlying107 rfl rfl sz31 rfl) ?_
    replace hM : St ⟨w, X, S⟩ [oBox b139 #[(.int .i64 ((el list k124).client)), (.int .i64 ((el list k124).seq)), s136.v] 107, oC (cSl 3 fDPart r146) s149.v, oC (cSl 3 fDEntry out120) s122.v] [rV s136.v (cSl 3 fDPart ((el list k124).o)), rV s_list.v (cSl 3 fDEntry list)] _ := hM.pl [1]
    refine w_exu (x_stB #[(.int .i64 ((el list k124).client)), (.int .i64 ((el list k124).seq)), s149.v] sz31 rfl rfl rfl rfl rfl rfl hM ?_); intro w152 hM
    refine wl_nil ?_
    refine sq_n ?_
    refine wc_region ?_
    refine wv rfl (r_move rfl) ?_
    refine wv rfl (r_ldBS Try.underlying107 sz107 rfl (us := [(.int .i64 ((el list k124).client)), (.int .i64 ((el list k124).seq)), s149.v]) rfl hM (.head _) rfl) ?_
    replace hM : St ⟨w, X, S⟩ [oC (cSl 3 fDEntry out120) s122.v, oC (cSl 3 fDPart r146) s149.v, oBox b139 #[(.int .i64 ((el list k124).client)), (.int .i64 ((el list k124).seq)), s149.v] 107] [rV s136.v (cSl 3 fDPart ((el list k124).o)), rV s_list.v (cSl 3 fDEntry list)] _ := hM.pl [1, 2]
    obtain ⟨hg159, hx⟩ := xg_some hx
    refine w_push (f := fDEntry) (⟨(el list k124).client, (el list k124).seq, r146⟩ : DEntry) rfl rfl Try.underlying44 sz107 rfl rfl rfl rfl (fun _ => rfl) hM (fun _ => zP (pV _ rfl) (zP (pV _ rfl) (zO zN))) rfl hg159 rfl ?_; intro u157 s158 w156 hM
    refine wv rfl (r_assign rfl) ?_
    refine wl_nil ?_
    refine bk_n ?_
    refine sq_n ?_
    refine wc_region ?_
    refine wv rfl (r_add rfl rfl ⟨by omega, by omega⟩) ?_
    refine wv rfl (r_move rfl) ?_
    refine wl_nil ?_
    obtain rfl := Option.some.inj hx
    replace hM : St ⟨w, X, S⟩ [oC (cSl 3 fDEntry (out120 ++ [(⟨(el list k124).client, (el list k124).seq, r146⟩ : DEntry)])) s158.v] [rV s136.v (cSl 3 fDPart ((el list k124).o)), rV s_list.v (cSl 3 fDEntry list)] _ := hM.tk 1
    have hM := hM.fewer (rsC (.tail _ (.head _)) rsN)
    replace hM : St ⟨w, X, S⟩ [oC (cSl 3 fDEntry (out120 ++ [(⟨(el list k124).client, (el list k124).seq, r146⟩ : DEntry)])) s158.v] [rV s_list.v (cSl 3 fDEntry list)] _ := hM
    exact lp_end (m130, k124 + 1, out120 ++ [(⟨(el list k124).client, (el list k124).seq, r146⟩ : DEntry)], s158) (Nat.lt_succ_self _) ⟨rfl, rfl, rfl, rfl, trivial⟩ ⟨hM, hx132, hk125⟩
  · replace hc129 := of_decide_eq_false hc129
    obtain rfl := eachN_end hx hk125 hc129
    refine wc_exit ?_
    refine sq_exit ?_
    refine lp1_exit ?_
    replace hx := hx118
    try dsimp only [Sum.elim_inl, Sum.elim_inr] at hx
    refine bk_here ?_
    refine sq_n ?_
    refine wc_seq ?_
    refine wc_region ?_
    refine wv rfl (r_move rfl) ?_
    refine wv rfl (r_assign rfl) ?_
    refine wl_nil ?_
    refine sq_n ?_
    refine wc_ret ?_
    obtain rfl := Option.some.inj hx
    refine fin_ret [s122.v] ⟨rfl, trivial⟩ ?_
    replace hM : St ⟨w, X, S⟩ [oC (cSl 3 fDEntry out120) s122.v] [rV s_list.v (cSl 3 fDEntry list)] _ := hM.tk 1
    have hM := hM.fewer rsN
    exact ⟨s122, rfl, hM.gives⟩

noncomputable def x_impl_ByClient_b0 (client : Int) (k41 : Nat) (out42 : List DEntry) (l43 : List DEntry) : Option (Lr (List DEntry × List DEntry) (List DEntry)) :=
  xg (0 ≤ (k41 : Int) ∧ (k41 : Int) < (l43.length : Int)) <| bif decide (((el l43 k41).client) = client) then (xg (out42.length < 1099511627776) <| some (Lr.go (out42 ++ [el l43 k41], l43))) else (some (Lr.go (out42, l43)))
noncomputable def x_impl_ByClient_f0 (client : Int) (k41 : Nat) (s107 : List DEntry × List DEntry) : Option (Lr (List DEntry × List DEntry) (List DEntry)) := x_impl_ByClient_b0 client k41 s107.1 s107.2
noncomputable def x_impl_ByClient (l : List DEntry) (client : Int) : Option (List DEntry) :=
  Option.bind (x_impl_copyEntries l) fun r4 => Option.bind (eachN (x_impl_ByClient_f0 client) (fun (s107 : List DEntry × List DEntry) => (s107.1 : List DEntry)) r4.length 0 ([], r4)) fun (y108 : List DEntry) => some y108
theorem ct_impl_ByClient (w : World) (X S : Bs) (l : List DEntry) (s_l : Sv) (client : Int) (hS : ∀ b, S b → b < w.heap.size ∧ ¬ X b) (a_l_0 : (cSl 3 fDEntry l).rd S w s_l.v) (oL : Sep [] X w) {r : List DEntry} (hx : x_impl_ByClient l client = some r) :
    Ret Try.prog 94 [s_l.v, (.int .i64 client)] w (fun u w' => ∃ y : Sv, u = y.v ∧ Gives X S w [] [rV y.v (cSl 3 fDEntry r)] w') := by
  unfold x_impl_ByClient at hx
  refine enter Try.func94 rfl Try.ntmps94 (by kernel_rfl) rfl ?_
  have hM := St.enter oL hS
  have hM := hM.addE (r := rV s_l.v (cSl 3 fDEntry l)) a_l_0
  refine wc_seq ?_
  refine wc_region ?_
  refine wv rfl (r_assign rfl) ?_
  refine wl_nil ?_
  refine sq_n ?_
  refine wc_seq ?_
  refine wc_region ?_
  refine wv rfl (r_assign rfl) ?_
  refine wl_nil ?_
  refine sq_n ?_
  refine wc_seq ?_
  refine wc_seq ?_
  refine wc_region ?_
  refine wv rfl (r_move rfl) ?_
  obtain ⟨r117, h118, hx⟩ := bind_some' hx
  refine w_call rfl rfl (hM.callO (l := []) fun X S oL hS hR hO => ct_impl_copyEntries _ X S l s_l hS (hR _ (.head _)) oL h118) ?_
  rintro _ w119 ⟨s120, rfl, hM⟩
  replace hM : St ⟨w, X, S⟩ [oC (cSl 3 fDEntry r117) s120.v] [rV s_l.v (cSl 3 fDEntry l)] _ := hM
  refine wv rfl (r_lenC Try.underlying44 rfl (hM.seeO (.head _))) ?_
  refine wv rfl (r_move rfl) ?_
  refine wl_nil ?_
  refine sq_n ?_
  refine wc_block ?_
  obtain ⟨y124, hx, hx125⟩ := bind_some' hx
  have hM := hM.nilS0 (T := DEntry) 3 fDEntry
  replace hM : St ⟨w, X, S⟩ [oC (cSl 3 fDEntry r117) s120.v, oRow 3 nS.v ([] : List DEntry).length ([] : List Value)] [rX ([] : List Value) (([] : List DEntry).flatMap fDEntry), rV s_l.v (cSl 3 fDEntry l)] _ := hM.pl [1]
  have hM := hM.selO
  have hM := hM.fewer (rsC (.tail _ (.head _)) (rsC (.head _) rsN))
  replace hM : St ⟨w, X, S⟩ [oRow 3 nS.v ([] : List DEntry).length ([] : List Value)] [rX ([] : List Value) (([] : List DEntry).flatMap fDEntry), rV s120.v (cSl 3 fDEntry r117)] _ := hM
  have hl136 := Cs.le (hM.seeR (.tail _ (.head _)))
  refine wc_loop (un fun (m133 : Nat) => un fun (k134 : Nat) => un fun (out127 : List DEntry) => un fun (l128 : List DEntry) => un fun (s130 : Sv) => un fun (xs131 : List Value) => fun (s132 : Sv) => [(1, (.int .i64 client)), (5, s130.v), (9, s132.v), (10, (.int .i64 (r117.length : Int))), (11, (.int .i64 (k134 : Int)))]) (un fun (m133 : Nat) => un fun (k134 : Nat) => un fun (out127 : List DEntry) => un fun (l128 : List DEntry) => un fun (s130 : Sv) => un fun (xs131 : List Value) => fun (s132 : Sv) w' => St ⟨w, X, S⟩ [oRow 3 s130.v out127.length xs131] [rX xs131 (out127.flatMap fDEntry), rV s132.v (cSl 3 fDEntry l128)] w' ∧ eachN _ _ m133 k134 (out127, l128) = some y124 ∧ k134 + m133 = r117.length) (fun p => p.1) (r117.length, 0, [], r117, nS, ([] : List Value), s120) ⟨rfl, rfl, rfl, rfl, rfl, trivial⟩ ⟨hM, hx, Nat.zero_add _⟩ ?_
  rintro ⟨m133, k134, out127, l128, s130, xs131, s132⟩ w137 ⟨hM, hx, hk135⟩
  refine wc_seq ?_
  refine wc_region ?_
  refine wv rfl (r_lss rfl rfl) ?_
  refine wl_nil ?_
  refine sq_n ?_
  refine wc_seq ?_
  refine wc_cond rfl (fun hc139 => ?_) (fun hc139 => ?_)
  · replace hc139 := of_decide_eq_true hc139
    obtain ⟨m140, z141, rfl, hk135, hx, hx142⟩ := eachN_step hx hk135 hc139
    unfold x_impl_ByClient_f0 x_impl_ByClient_b0 at hx
    try dsimp only at hx
    refine wc_skip ?_
    refine sq_n ?_
    refine wc_seq ?_
    refine wc_block ?_
    refine wc_seq ?_
    refine wc_region ?_
    obtain ⟨hg145, hx⟩ := xg_some hx
    have hi144 : k134 < l128.length := by omega
    refine wv rfl (r_ixC Try.underlying44 sz107 rfl rfl (hM.seeR (.tail _ (.head _))) hg145) ?_
    obtain ⟨s147, hM, hc148⟩ := hM.leaf (i := k134) (j := 2) (.tail _ (.head _)) (fun _ => rfl) hi144 rfl
    refine wv rfl (r_ldC (o := k134 * 3) Try.underlying107 sz107 rfl (us := [(.int .i64 ((el l128 k134).client)), (.int .i64 ((el l128 k134).seq)), s147.v]) rfl (hM.seeR (.tail _ (.tail _ (.head _)))) hi144 ⟨(Cs.get (i := k134) (j := 0) (hM.seeR (.tail _ (.tail _ (.head _)))) (fun _ => rfl) hi144 rfl), (Cs.get (i := k134) (j := 1) (hM.seeR (.tail _ (.tail _ (.head _)))) (fun _ => rfl) hi144 rfl), (hc148 _ (Rel.refl _)), trivial⟩) ?_
    refine w_ex rfl (x_alloc sz107 hM ?_); intro b150 w149 hR151 hM
    replace hM : St ⟨w, X, S⟩ [oBox b150 #[(.int .i64 0), (.int .i64 0), (.slice none 0 0)] 107, oRow 3 s130.v out127.length xs131] [rV s147.v (cSl 3 fDPart ((el l128 k134).o)), rX xs131 (out127.flatMap fDEntry), rV s132.v (cSl 3 fDEntry l128)] _ := hM
    refine w_exu (x_stB #[(.int .i64 ((el l128 k134).client)), (.int .i64 ((el l128 k134).seq)), s147.v] sz107 rfl rfl rfl rfl rfl rfl hM ?_); intro w153 hM
    refine wl_nil ?_
    refine sq_n ?_
    refine wc_seq ?_
    refine wc_region ?_
    refine wv rfl (r_fld Try.underlying107 rfl rfl sz3 rfl) ?_
    refine wv rfl (r_ldB Try.underlying3 rfl rfl hM (.head _) rfl) ?_
    refine wv rfl (r_move rfl) ?_
    refine wv rfl (r_eql rfl rfl) ?_
    refine wl_nil ?_
    refine sq_n ?_
    refine wc_cond rfl (fun hc159 => ?_) (fun hc159 => ?_)
    · replace hx := xif_t hc159 hx
      refine wc_region ?_
      refine wv rfl (r_move rfl) ?_
      refine wv rfl (r_ldBS Try.underlying107 sz107 rfl (us := [(.int .i64 ((el l128 k134).client)), (.int .i64 ((el l128 k134).seq)), s147.v]) rfl hM (.head _) rfl) ?_
      replace hM : St ⟨w, X, S⟩ [oRow 3 s130.v out127.length xs131, oBox b150 #[(.int .i64 ((el l128 k134).client)), (.int .i64 ((el l128 k134).seq)), s147.v] 107] [rV s147.v (cSl 3 fDPart ((el l128 k134).o)), rX xs131 (out127.flatMap fDEntry), rV s132.v (cSl 3 fDEntry l128)] _ := hM.pl [1]
      obtain ⟨hg165, hx⟩ := xg_some hx
      refine w_pushS (f := fDEntry) (L := out127) (el l128 k134) rfl rfl Try.underlying44 sz107 rfl rfl rfl (fun _ => rfl) hM (.tail _ (.head _)) (fun S w hR => ⟨_, _, rfl, rfl, ⟨_, _, rfl, rfl, ⟨_, _, rfl, hR _ (.head _), rfl⟩⟩⟩) rfl hg165 rfl ?_; intro u163 s164 xs166 w162 hM
      refine wv rfl (r_assign rfl) ?_
      refine wl_nil ?_
      refine bk_n ?_
      refine sq_n ?_
      refine wc_region ?_
      refine wv rfl (r_add rfl rfl ⟨by omega, by omega⟩) ?_
      refine wv rfl (r_move rfl) ?_
      refine wl_nil ?_
      obtain rfl := Option.some.inj hx
      replace hM : St ⟨w, X, S⟩ [oRow 3 s164.v (out127 ++ [el l128 k134]).length xs166] [rX xs166 ((out127 ++ [el l128 k134]).flatMap fDEntry), rV s147.v (cSl 3 fDPart ((el l128 k134).o)), rX xs131 (out127.flatMap fDEntry), rV s132.v (cSl 3 fDEntry l128)] _ := hM.tk 1
      have hM := hM.fewer (rsC (.head _) (rsC (.tail _ (.tail _ (.tail _ (.head _)))) rsN))
      replace hM : St ⟨w, X, S⟩ [oRow 3 s164.v (out127 ++ [el l128 k134]).length xs166] [rX xs166 ((out127 ++ [el l128 k134]).flatMap fDEntry), rV s132.v (cSl 3 fDEntry l128)] _ := hM
      exact lp_end (m140, k134 + 1, out127 ++ [el l128 k134], l128, s164, xs166, s132) (Nat.lt_succ_self _) ⟨rfl, rfl, rfl, rfl, rfl, trivial⟩ ⟨hM, hx142, hk135⟩
    · replace hx := xif_f hc159 hx
      refine wc_skip ?_
      refine bk_n ?_
      refine sq_n ?_
      refine wc_region ?_
      refine wv rfl (r_add rfl rfl ⟨by omega, by omega⟩) ?_
      refine wv rfl (r_move rfl) ?_
      refine wl_nil ?_
      obtain rfl := Option.some.inj hx
      replace hM : St ⟨w, X, S⟩ [oRow 3 s130.v out127.length xs131, oBox b150 #[(.int .i64 ((el l128 k134).client)), (.int .i64 ((el l128 k134).seq)), s147.v] 107] [rV s147.v (cSl 3 fDPart ((el l128 k134).o)), rX xs131 (out127.flatMap fDEntry), rV s132.v (cSl 3 fDEntry l128)] _ := hM.pl [1]
      replace hM : St ⟨w, X, S⟩ [oRow 3 s130.v out127.length xs131] [rV s147.v (cSl 3 fDPart ((el l128 k134).o)), rX xs131 (out127.flatMap fDEntry), rV s132.v (cSl 3 fDEntry l128)] _ := hM.tk 1
      have hM := hM.fewer (rsC (.tail _ (.head _)) (rsC (.tail _ (.tail _ (.head _))) rsN))
      replace hM : St ⟨w, X, S⟩ [oRow 3 s130.v out127.length xs131] [rX xs131 (out127.flatMap fDEntry), rV s132.v (cSl 3 fDEntry l128)] _ := hM
      exact lp_end (m140, k134 + 1, out127, l128, s130, xs131, s132) (Nat.lt_succ_self _) ⟨rfl, rfl, rfl, rfl, rfl, trivial⟩ ⟨hM, hx142, hk135⟩
  · replace hc139 := of_decide_eq_false hc139
    obtain rfl := eachN_end hx hk135 hc139
    refine wc_exit ?_
    refine sq_exit ?_
    refine lp1_exit ?_
    replace hx := hx125
    try dsimp only [Sum.elim_inl, Sum.elim_inr] at hx
    refine bk_here ?_
    refine sq_n ?_
    refine wc_seq ?_
    refine wc_region ?_
    refine wv rfl (r_move rfl) ?_
    refine wv rfl (r_assign rfl) ?_
    refine wl_nil ?_
    refine sq_n ?_
    refine wc_ret ?_
    obtain rfl := Option.some.inj hx
    have hM := hM.sealS (fun _ => rfl) (.head _)
    refine fin_ret [s130.v] ⟨rfl, trivial⟩ ?_
    replace hM : St ⟨w, X, S⟩ [] [rV s130.v (cSl 3 fDEntry out127), rX xs131 (out127.flatMap fDEntry), rV s132.v (cSl 3 fDEntry l128)] _ := hM.tk 0
    have hM := hM.fewer (rsC (.head _) rsN)
    exact ⟨s130, rfl, hM.gives⟩

noncomputable def x_impl_Gains_b0 (_r7 : List DEntry) (_k13 : Nat) (x84 : DEntry) (puts14 : Int) (drops15 : Int) : Option (Lr (Int × Int) (Int × Int)) :=
  Option.bind (x_impl_Puts (x84.o)) fun r65 => xg (inI (puts14 + r65)) <| Option.bind (x_impl_Drops (x84.o)) fun r75 => xg (inI (drops15 + r75)) <| some (Lr.go (puts14 + r65, drops15 + r75))
noncomputable def x_impl_Gains_f0 (r7 : List DEntry) (k13 : Nat) (s85 : Int × Int) : Option (Lr (Int × Int) (Int × Int)) := x_impl_Gains_b0 r7 k13 (el r7 k13) s85.1 s85.2
noncomputable def x_impl_Gains (l : List DEntry) (client : Int) : Option (Int × Int) :=
  Option.bind (x_impl_ByClient l client) fun r7 => Option.bind (eachN (x_impl_Gains_f0 r7) (fun (s85 : Int × Int) => ((s85.1, s85.2) : Int × Int)) r7.length 0 (0, 0)) fun (y86 : Int × Int) => some (y86.1, y86.2)
theorem ct_impl_Gains (w : World) (X S : Bs) (l : List DEntry) (s_l : Sv) (client : Int) (hS : ∀ b, S b → b < w.heap.size ∧ ¬ X b) (a_l_0 : (cSl 3 fDEntry l).rd S w s_l.v) (oL : Sep [] X w) {r : Int × Int} (hx : x_impl_Gains l client = some r) :
    Ret Try.prog 38 [s_l.v, (.int .i64 client)] w (fun u w' => ∃ _ : Unit, u = .tuple #[(.int .i64 r.1), (.int .i64 r.2)] ∧ Gives X S w [] [] w') := by
  unfold x_impl_Gains at hx
  refine enter Try.func38 rfl Try.ntmps38 (by kernel_rfl) rfl ?_
  have hM := St.enter oL hS
  have hM := hM.addE (r := rV s_l.v (cSl 3 fDEntry l)) a_l_0
  refine wc_seq ?_
  refine wc_region ?_
  refine wv rfl (r_assign rfl) ?_
  refine wv rfl (r_assign rfl) ?_
  refine wl_nil ?_
  refine sq_n ?_
  refine wc_seq ?_
  refine wc_region ?_
  refine wv rfl (r_assign rfl) ?_
  refine wv rfl (r_assign rfl) ?_
  refine wl_nil ?_
  refine sq_n ?_
  refine wc_seq ?_
  refine wc_seq ?_
  refine wc_region ?_
  refine wv rfl (r_move rfl) ?_
  refine wv rfl (r_move rfl) ?_
  obtain ⟨r97, h98, hx⟩ := bind_some' hx
  refine w_call rfl rfl (hM.callR (l := []) fun X S oL hS hR => ct_impl_ByClient _ X S l s_l client hS (hR _ (.head _)) oL h98) ?_
  rintro _ w99 ⟨s100, rfl, hM⟩
  replace hM : St ⟨w, X, S⟩ [] [rV s100.v (cSl 3 fDEntry r97), rV s_l.v (cSl 3 fDEntry l)] _ := hM
  refine wv rfl (r_lenC Try.underlying44 rfl (hM.seeR (.head _))) ?_
  refine wv rfl (r_move rfl) ?_
  refine wl_nil ?_
  refine sq_n ?_
  refine wc_block ?_
  obtain ⟨y103, hx, hx104⟩ := bind_some' hx
  have hM := hM.fewer (rsC (.head _) rsN)
  replace hM : St ⟨w, X, S⟩ [] [rV s100.v (cSl 3 fDEntry r97)] _ := hM
  have hl110 := Cs.le (hM.seeR (.head _))
  refine wc_loop (un fun (m107 : Nat) => un fun (k108 : Nat) => un fun (puts105 : Int) => fun (drops106 : Int) => [(6, (.int .i64 puts105)), (7, (.int .i64 drops106)), (12, s100.v), (13, (.int .i64 (r97.length : Int))), (14, (.int .i64 (k108 : Int)))]) (un fun (m107 : Nat) => un fun (k108 : Nat) => un fun (puts105 : Int) => fun (drops106 : Int) w' => St ⟨w, X, S⟩ [] [rV s100.v (cSl 3 fDEntry r97)] w' ∧ eachN _ _ m107 k108 (puts105, drops106) = some y103 ∧ k108 + m107 = r97.length) (fun p => p.1) (r97.length, 0, 0, 0) ⟨rfl, rfl, rfl, rfl, rfl, trivial⟩ ⟨hM, hx, Nat.zero_add _⟩ ?_
  rintro ⟨m107, k108, puts105, drops106⟩ w111 ⟨hM, hx, hk109⟩
  refine wc_seq ?_
  refine wc_region ?_
  refine wv rfl (r_lss rfl rfl) ?_
  refine wl_nil ?_
  refine sq_n ?_
  refine wc_seq ?_
  refine wc_cond rfl (fun hc113 => ?_) (fun hc113 => ?_)
  · replace hc113 := of_decide_eq_true hc113
    obtain ⟨m114, z115, rfl, hk109, hx, hx116⟩ := eachN_step hx hk109 hc113
    unfold x_impl_Gains_f0 x_impl_Gains_b0 at hx
    try dsimp only at hx
    refine wc_skip ?_
    refine sq_n ?_
    refine wc_seq ?_
    refine wc_block ?_
    refine wc_seq ?_
    refine wc_region ?_
    have hi118 : k108 < r97.length := by omega
    refine wv rfl (r_ixC Try.underlying44 sz107 rfl rfl (hM.seeR (.head _)) ⟨by omega, hc113⟩) ?_
    obtain ⟨s120, hM, hc121⟩ := hM.leaf (i := k108) (j := 2) (.head _) (fun _ => rfl) hi118 rfl
    refine wv rfl (r_ldC (o := k108 * 3) Try.underlying107 sz107 rfl (us := [(.int .i64 ((el r97 k108).client)), (.int .i64 ((el r97 k108).seq)), s120.v]) rfl (hM.seeR (.tail _ (.head _))) hi118 ⟨(Cs.get (i := k108) (j := 0) (hM.seeR (.tail _ (.head _))) (fun _ => rfl) hi118 rfl), (Cs.get (i := k108) (j := 1) (hM.seeR (.tail _ (.head _))) (fun _ => rfl) hi118 rfl), (hc121 _ (Rel.refl _)), trivial⟩) ?_
    refine w_ex rfl (x_alloc sz107 hM ?_); intro b123 w122 hR124 hM
    replace hM : St ⟨w, X, S⟩ [oBox b123 #[(.int .i64 0), (.int .i64 0), (.slice none 0 0)] 107] [rV s120.v (cSl 3 fDPart ((el r97 k108).o)), rV s100.v (cSl 3 fDEntry r97)] _ := hM
    refine w_exu (x_stB #[(.int .i64 ((el r97 k108).client)), (.int .i64 ((el r97 k108).seq)), s120.v] sz107 rfl rfl rfl rfl rfl rfl hM ?_); intro w126 hM
    refine wl_nil ?_
    refine sq_n ?_
    refine wc_seq ?_
    refine wc_region ?_
    refine wv rfl (r_move rfl) ?_
    refine wv rfl (r_fld Try.underlying107 rfl rfl sz31 rfl) ?_
    refine wv rfl (r_ldB Try.underlying31 rfl rfl hM (.head _) rfl) ?_
    obtain ⟨r131, h132, hx⟩ := bind_some' hx
    refine w_call rfl rfl (hM.callV fun X S oL hS hR hO => ct_impl_Puts _ X S ((el r97 k108).o) s120 hS (hR _ (.head _)) oL h132) ?_
    rintro _ w133 ⟨rfl, hR134⟩
    have hM := hM.call hR134
    obtain ⟨hg136, hx⟩ := xg_some hx
    refine wv rfl (r_add rfl rfl hg136) ?_
    refine wv rfl (r_assign rfl) ?_
    refine wl_nil ?_
    refine sq_n ?_
    refine wc_region ?_
    refine wv rfl (r_move rfl) ?_
    refine wv rfl (r_fld Try.underlying107 rfl rfl sz31 rfl) ?_
    refine wv rfl (r_ldB Try.underlying31 rfl rfl hM (.head _) rfl) ?_
    obtain ⟨r141, h142, hx⟩ := bind_some' hx
    refine w_call rfl rfl (hM.callV fun X S oL hS hR hO => ct_impl_Drops _ X S ((el r97 k108).o) s120 hS (hR _ (.head _)) oL h142) ?_
    rintro _ w143 ⟨rfl, hR144⟩
    have hM := hM.call hR144
    obtain ⟨hg146, hx⟩ := xg_some hx
    refine wv rfl (r_add rfl rfl hg146) ?_
    refine wv rfl (r_assign rfl) ?_
    refine wl_nil ?_
    refine bk_n ?_
    refine sq_n ?_
    refine wc_region ?_
    refine wv rfl (r_add rfl rfl ⟨by omega, by omega⟩) ?_
    refine wv rfl (r_move rfl) ?_
    refine wl_nil ?_
    obtain rfl := Option.some.inj hx
    replace hM : St ⟨w, X, S⟩ [] [rV s120.v (cSl 3 fDPart ((el r97 k108).o)), rV s100.v (cSl 3 fDEntry r97)] _ := hM.tk 0
    have hM := hM.fewer (rsC (.tail _ (.head _)) rsN)
    replace hM : St ⟨w, X, S⟩ [] [rV s100.v (cSl 3 fDEntry r97)] _ := hM
    exact lp_end (m114, k108 + 1, puts105 + r131, drops106 + r141) (Nat.lt_succ_self _) ⟨rfl, rfl, rfl, rfl, rfl, trivial⟩ ⟨hM, hx116, hk109⟩
  · replace hc113 := of_decide_eq_false hc113
    obtain rfl := eachN_end hx hk109 hc113
    refine wc_exit ?_
    refine sq_exit ?_
    refine lp1_exit ?_
    replace hx := hx104
    try dsimp only [Sum.elim_inl, Sum.elim_inr] at hx
    refine bk_here ?_
    refine sq_n ?_
    refine wc_seq ?_
    refine wc_region ?_
    refine wv rfl (r_move rfl) ?_
    refine wv rfl (r_move rfl) ?_
    refine wv rfl (r_assign rfl) ?_
    refine wv rfl (r_assign rfl) ?_
    refine wl_nil ?_
    refine sq_n ?_
    refine wc_ret ?_
    obtain rfl := Option.some.inj hx
    refine fin_ret [(.int .i64 puts105), (.int .i64 drops106)] ⟨rfl, rfl, trivial⟩ ?_
    replace hM : St ⟨w, X, S⟩ [] [rV s100.v (cSl 3 fDEntry r97)] _ := hM.tk 0
    have hM := hM.fewer rsN
    exact ⟨(), rfl, hM.gives⟩

noncomputable def x_spec_l08Entry (e : DEntry) : Option DEntry :=
  Option.bind (x_spec_l02Copy e.o) fun r15 => some (⟨e.client, e.seq, r15⟩ : DEntry)
theorem ct_spec_l08Entry (w : World) (X S : Bs) (e : DEntry) (s_e_2 : Sv) (hS : ∀ b, S b → b < w.heap.size ∧ ¬ X b) (a_e_2 : (cSl 3 fDPart e.o).rd S w s_e_2.v) (oL : Sep [] X w) {r : DEntry} (hx : x_spec_l08Entry e = some r) :
    Ret Try.prog 89 [(.agg #[(.int .i64 e.client), (.int .i64 e.seq), s_e_2.v])] w (fun u w' => ∃ y : Sv, u = .agg #[(.int .i64 r.client), (.int .i64 r.seq), y.v] ∧ Gives X S w [oC (cSl 3 fDPart r.o) y.v] [] w') := by
  unfold x_spec_l08Entry at hx
  refine enter Try.func89 rfl Try.ntmps89 (by kernel_rfl) rfl ?_
  have hM := St.enter oL hS
  have hM := hM.addE (r := rV s_e_2.v (cSl 3 fDPart e.o)) a_e_2
  refine wc_seq ?_
  refine wc_region ?_
  refine w_ex rfl (x_box rfl hM ?_); intro b31 w30 hR32 hM
  replace hM : St ⟨w, X, S⟩ [oBox b31 #[(.int .i64 e.client), (.int .i64 e.seq), s_e_2.v] 107] [rV s_e_2.v (cSl 3 fDPart e.o)] _ := hM
  refine w_ex rfl (x_alloc sz107 hM ?_); intro b35 w34 hR36 hM
  replace hM : St ⟨w, X, S⟩ [oBox b35 #[(.int .i64 0), (.int .i64 0), (.slice none 0 0)] 107, oBox b31 #[(.int .i64 e.client), (.int .i64 e.seq), s_e_2.v] 107] [rV s_e_2.v (cSl 3 fDPart e.o)] _ := hM
  refine wl_nil ?_
  refine sq_n ?_
  refine wc_seq ?_
  refine wc_draw [(0, 0), (1, 0), (2, 0), (3, 0), (4, 0), (5, 0), (6, 1), (7, 0), (8, 2)] Try_mixed (by kernel_rfl) rfl (by kernel_rfl) rfl ?_
  refine ov rfl (fun w' h' => r_fld Try.underlying107 rfl rfl sz3 rfl) ?_
  refine ov rfl (fun w' h' => r_ldB Try.underlying3 rfl rfl (hM.call h') (.tail _ (.head _)) rfl) ?_
  refine ov rfl (fun w' h' => r_fld Try.underlying107 rfl rfl sz3 rfl) ?_
  refine ov rfl (fun w' h' => r_ldB Try.underlying3 rfl rfl (hM.call h') (.tail _ (.head _)) rfl) ?_
  refine ov rfl (fun w' h' => r_fld Try.underlying107 rfl rfl sz31 rfl) ?_
  refine ov rfl (fun w' h' => r_ldB Try.underlying31 rfl rfl (hM.call h') (.tail _ (.head _)) rfl) ?_
  obtain ⟨r44, h45, hx⟩ := bind_some' hx
  refine o_forced rfl rfl (fun w' h' => (hM.call h').callF fun X S oL hS hR hO => ct_spec_l02Copy _ X S e.o s_e_2 hS (hR _ (.head _)) oL h45) ?_
  rintro w48 h49 _ w46 ⟨hR50, s47, rfl, hM⟩
  refine ⟨hR50, ?_⟩
  replace hM : St ⟨w, X, S⟩ [oC (cSl 3 fDPart r44) s47.v, oBox b35 #[(.int .i64 0), (.int .i64 0), (.slice none 0 0)] 107, oBox b31 #[(.int .i64 e.client), (.int .i64 e.seq), s_e_2.v] 107] [rV s_e_2.v (cSl 3 fDPart e.o)] _ := hM
  refine ov rfl (fun w' h' => r_build (cells := #[(.int .i64 e.client), (.int .i64 e.seq), s47.v]) rfl (by kernel_rfl)) ?_
  replace hM : St ⟨w, X, S⟩ [oBox b35 #[(.int .i64 0), (.int .i64 0), (.slice none 0 0)] 107, oC (cSl 3 fDPart r44) s47.v, oBox b31 #[(.int .i64 e.client), (.int .i64 e.seq), s_e_2.v] 107] [rV s_e_2.v (cSl 3 fDPart e.o)] _ := hM.pl [1]
  refine o_exu fun w55 h56 => ?_
  have hM := hM.call h56
  refine x_stB #[(.int .i64 e.client), (.int .i64 e.seq), s47.v] sz107 rfl rfl rfl rfl rfl rfl hM ?_; intro w53 hM
  refine o_nil fun w57 hw58 => ?_
  have hM := hM.call hw58
  refine sq_n ?_
  refine wc_ret ?_
  obtain rfl := Option.some.inj hx
  refine fin_ret [(.agg #[(.int .i64 e.client), (.int .i64 e.seq), s47.v])] ⟨rv_box Try.underlying107 sz107 rfl rfl hM (.head _), trivial⟩ ?_
  replace hM : St ⟨w, X, S⟩ [oC (cSl 3 fDPart r44) s47.v, oBox b35 #[(.int .i64 e.client), (.int .i64 e.seq), s47.v] 107, oBox b31 #[(.int .i64 e.client), (.int .i64 e.seq), s_e_2.v] 107] [rV s_e_2.v (cSl 3 fDPart e.o)] _ := hM.pl [1]
  replace hM : St ⟨w, X, S⟩ [oC (cSl 3 fDPart r44) s47.v] [rV s_e_2.v (cSl 3 fDPart e.o)] _ := hM.tk 1
  have hM := hM.fewer rsN
  exact ⟨s47, rfl, hM.gives⟩

noncomputable def x_spec_ByClient_b0 (client : Int) (_l : List DEntry) (_k10 : Nat) (x78 : DEntry) (out11 : List DEntry) : Option (Lr (List DEntry) (List DEntry)) :=
  bif decide ((x78.client) = client) then (Option.bind (x_spec_l08Entry x78) fun r64 => xg (out11.length < 1099511627776) <| some (Lr.go (out11 ++ [r64]))) else (some (Lr.go out11))
noncomputable def x_spec_ByClient_f0 (client : Int) (l : List DEntry) (k10 : Nat) (s79 : List DEntry) : Option (Lr (List DEntry) (List DEntry)) := x_spec_ByClient_b0 client l k10 (el l k10) s79
noncomputable def x_spec_ByClient (l : List DEntry) (client : Int) : Option (List DEntry) :=
  Option.bind (eachN (x_spec_ByClient_f0 client l) (fun (s79 : List DEntry) => (s79 : List DEntry)) l.length 0 []) fun (y80 : List DEntry) => some y80
theorem ct_spec_ByClient (w : World) (X S : Bs) (l : List DEntry) (s_l : Sv) (client : Int) (hS : ∀ b, S b → b < w.heap.size ∧ ¬ X b) (a_l_0 : (cSl 3 fDEntry l).rd S w s_l.v) (oL : Sep [] X w) {r : List DEntry} (hx : x_spec_ByClient l client = some r) :
    Ret Try.prog 91 [s_l.v, (.int .i64 client)] w (fun u w' => ∃ y : Sv, u = y.v ∧ Gives X S w [oC (cSl 3 fDEntry r) y.v] [] w') := by
  unfold x_spec_ByClient at hx
  refine enter Try.func91 rfl Try.ntmps91 (by kernel_rfl) rfl ?_
  have hM := St.enter oL hS
  have hM := hM.addE (r := rV s_l.v (cSl 3 fDEntry l)) a_l_0
  refine wc_seq ?_
  refine wc_region ?_
  refine wv rfl (r_assign rfl) ?_
  refine wl_nil ?_
  refine sq_n ?_
  refine wc_seq ?_
  refine wc_region ?_
  refine w_ex rfl (x_empty (f := fDEntry) Try.underlying44 sz107 (fun _ => rfl) hM ?_); intro s87 w86 hR88 hM
  refine wv rfl (r_assign rfl) ?_
  refine wl_nil ?_
  refine sq_n ?_
  refine wc_seq ?_
  refine wc_seq ?_
  refine wc_region ?_
  refine wv rfl (r_move rfl) ?_
  refine wv rfl (r_lenC Try.underlying44 rfl (hM.seeR (.head _))) ?_
  refine wv rfl (r_move rfl) ?_
  refine wl_nil ?_
  refine sq_n ?_
  refine wc_block ?_
  obtain ⟨y94, hx, hx95⟩ := bind_some' hx
  have hl102 := Cs.le (hM.seeR (.head _))
  refine wc_loop (un fun (m99 : Nat) => un fun (k100 : Nat) => un fun (out96 : List DEntry) => fun (s98 : Sv) => [(1, (.int .i64 client)), (5, s98.v), (9, s_l.v), (10, (.int .i64 (l.length : Int))), (11, (.int .i64 (k100 : Int)))]) (un fun (m99 : Nat) => un fun (k100 : Nat) => un fun (out96 : List DEntry) => fun (s98 : Sv) w' => St ⟨w, X, S⟩ [oC (cSl 3 fDEntry out96) s98.v] [rV s_l.v (cSl 3 fDEntry l)] w' ∧ eachN _ _ m99 k100 out96 = some y94 ∧ k100 + m99 = l.length) (fun p => p.1) (l.length, 0, [], s87) ⟨rfl, rfl, rfl, rfl, rfl, trivial⟩ ⟨hM, hx, Nat.zero_add _⟩ ?_
  rintro ⟨m99, k100, out96, s98⟩ w103 ⟨hM, hx, hk101⟩
  refine wc_seq ?_
  refine wc_region ?_
  refine wv rfl (r_lss rfl rfl) ?_
  refine wl_nil ?_
  refine sq_n ?_
  refine wc_seq ?_
  refine wc_cond rfl (fun hc105 => ?_) (fun hc105 => ?_)
  · replace hc105 := of_decide_eq_true hc105
    obtain ⟨m106, z107, rfl, hk101, hx, hx108⟩ := eachN_step hx hk101 hc105
    unfold x_spec_ByClient_f0 x_spec_ByClient_b0 at hx
    try dsimp only at hx
    refine wc_skip ?_
    refine sq_n ?_
    refine wc_seq ?_
    refine wc_block ?_
    refine wc_seq ?_
    refine wc_region ?_
    have hi110 : k100 < l.length := by omega
    refine wv rfl (r_ixC Try.underlying44 sz107 rfl rfl (hM.seeR (.head _)) ⟨by omega, hc105⟩) ?_
    obtain ⟨s112, hM, hc113⟩ := hM.leaf (i := k100) (j := 2) (.head _) (fun _ => rfl) hi110 rfl
    refine wv rfl (r_ldC (o := k100 * 3) Try.underlying107 sz107 rfl (us := [(.int .i64 ((el l k100).client)), (.int .i64 ((el l k100).seq)), s112.v]) rfl (hM.seeR (.tail _ (.head _))) hi110 ⟨(Cs.get (i := k100) (j := 0) (hM.seeR (.tail _ (.head _))) (fun _ => rfl) hi110 rfl), (Cs.get (i := k100) (j := 1) (hM.seeR (.tail _ (.head _))) (fun _ => rfl) hi110 rfl), (hc113 _ (Rel.refl _)), trivial⟩) ?_
    refine w_ex rfl (x_alloc sz107 hM ?_); intro b115 w114 hR116 hM
    replace hM : St ⟨w, X, S⟩ [oBox b115 #[(.int .i64 0), (.int .i64 0), (.slice none 0 0)] 107, oC (cSl 3 fDEntry out96) s98.v] [rV s112.v (cSl 3 fDPart ((el l k100).o)), rV s_l.v (cSl 3 fDEntry l)] _ := hM
    refine w_exu (x_stB #[(.int .i64 ((el l k100).client)), (.int .i64 ((el l k100).seq)), s112.v] sz107 rfl rfl rfl rfl rfl rfl hM ?_); intro w118 hM
    refine wl_nil ?_
    refine sq_n ?_
    refine wc_seq ?_
    refine wc_region ?_
    refine wv rfl (r_fld Try.underlying107 rfl rfl sz3 rfl) ?_
    refine wv rfl (r_ldB Try.underlying3 rfl rfl hM (.head _) rfl) ?_
    refine wv rfl (r_move rfl) ?_
    refine wv rfl (r_eql rfl rfl) ?_
    refine wl_nil ?_
    refine sq_n ?_
    refine wc_cond rfl (fun hc124 => ?_) (fun hc124 => ?_)
    · replace hx := xif_t hc124 hx
      refine wc_region ?_
      refine wv rfl (r_move rfl) ?_
      refine wv rfl (r_ldBS Try.underlying107 sz107 rfl (us := [(.int .i64 ((el l k100).client)), (.int .i64 ((el l k100).seq)), s112.v]) rfl hM (.head _) rfl) ?_
      obtain ⟨r127, h128, hx⟩ := bind_some' hx
      refine w_call rfl rfl (hM.callO (l := []) fun X S oL hS hR hO => ct_spec_l08Entry _ X S (el l k100) s112 hS (hR _ (.head _)) oL h128) ?_
      rintro _ w129 ⟨s130, rfl, hM⟩
      replace hM : St ⟨w, X, S⟩ [oC (cSl 3 fDPart r127.o) s130.v, oBox b115 #[(.int .i64 ((el l k100).client)), (.int .i64 ((el l k100).seq)), s112.v] 107, oC (cSl 3 fDEntry out96) s98.v] [rV s112.v (cSl 3 fDPart ((el l k100).o)), rV s_l.v (cSl 3 fDEntry l)] _ := hM
      replace hM : St ⟨w, X, S⟩ [oC (cSl 3 fDEntry out96) s98.v, oC (cSl 3 fDPart r127.o) s130.v, oBox b115 #[(.int .i64 ((el l k100).client)), (.int .i64 ((el l k100).seq)), s112.v] 107] [rV s112.v (cSl 3 fDPart ((el l k100).o)), rV s_l.v (cSl 3 fDEntry l)] _ := hM.pl [0, 2]
      obtain ⟨hg135, hx⟩ := xg_some hx
      refine w_push (f := fDEntry) r127 rfl rfl Try.underlying44 sz107 rfl rfl rfl rfl (fun _ => rfl) hM (fun _ => zP (pV _ rfl) (zP (pV _ rfl) (zO zN))) rfl hg135 rfl ?_; intro u133 s134 w132 hM
      refine wv rfl (r_assign rfl) ?_
      refine wl_nil ?_
      refine bk_n ?_
      refine sq_n ?_
      refine wc_region ?_
      refine wv rfl (r_add rfl rfl ⟨by omega, by omega⟩) ?_
      refine wv rfl (r_move rfl) ?_
      refine wl_nil ?_
      obtain rfl := Option.some.inj hx
      replace hM : St ⟨w, X, S⟩ [oC (cSl 3 fDEntry (out96 ++ [r127])) s134.v] [rV s112.v (cSl 3 fDPart ((el l k100).o)), rV s_l.v (cSl 3 fDEntry l)] _ := hM.tk 1
      have hM := hM.fewer (rsC (.tail _ (.head _)) rsN)
      replace hM : St ⟨w, X, S⟩ [oC (cSl 3 fDEntry (out96 ++ [r127])) s134.v] [rV s_l.v (cSl 3 fDEntry l)] _ := hM
      exact lp_end (m106, k100 + 1, out96 ++ [r127], s134) (Nat.lt_succ_self _) ⟨rfl, rfl, rfl, rfl, rfl, trivial⟩ ⟨hM, hx108, hk101⟩
    · replace hx := xif_f hc124 hx
      refine wc_skip ?_
      refine bk_n ?_
      refine sq_n ?_
      refine wc_region ?_
      refine wv rfl (r_add rfl rfl ⟨by omega, by omega⟩) ?_
      refine wv rfl (r_move rfl) ?_
      refine wl_nil ?_
      obtain rfl := Option.some.inj hx
      replace hM : St ⟨w, X, S⟩ [oC (cSl 3 fDEntry out96) s98.v, oBox b115 #[(.int .i64 ((el l k100).client)), (.int .i64 ((el l k100).seq)), s112.v] 107] [rV s112.v (cSl 3 fDPart ((el l k100).o)), rV s_l.v (cSl 3 fDEntry l)] _ := hM.pl [1]
      replace hM : St ⟨w, X, S⟩ [oC (cSl 3 fDEntry out96) s98.v] [rV s112.v (cSl 3 fDPart ((el l k100).o)), rV s_l.v (cSl 3 fDEntry l)] _ := hM.tk 1
      have hM := hM.fewer (rsC (.tail _ (.head _)) rsN)
      replace hM : St ⟨w, X, S⟩ [oC (cSl 3 fDEntry out96) s98.v] [rV s_l.v (cSl 3 fDEntry l)] _ := hM
      exact lp_end (m106, k100 + 1, out96, s98) (Nat.lt_succ_self _) ⟨rfl, rfl, rfl, rfl, rfl, trivial⟩ ⟨hM, hx108, hk101⟩
  · replace hc105 := of_decide_eq_false hc105
    obtain rfl := eachN_end hx hk101 hc105
    refine wc_exit ?_
    refine sq_exit ?_
    refine lp1_exit ?_
    replace hx := hx95
    try dsimp only [Sum.elim_inl, Sum.elim_inr] at hx
    refine bk_here ?_
    refine sq_n ?_
    refine wc_seq ?_
    refine wc_region ?_
    refine wv rfl (r_move rfl) ?_
    refine wv rfl (r_assign rfl) ?_
    refine wl_nil ?_
    refine sq_n ?_
    refine wc_ret ?_
    obtain rfl := Option.some.inj hx
    refine fin_ret [s98.v] ⟨rfl, trivial⟩ ?_
    replace hM : St ⟨w, X, S⟩ [oC (cSl 3 fDEntry out96) s98.v] [rV s_l.v (cSl 3 fDEntry l)] _ := hM.tk 1
    have hM := hM.fewer rsN
    exact ⟨s98, rfl, hM.gives⟩

noncomputable def x_spec_Gains_b0 (_r7 : List DEntry) (_k14 : Nat) (x85 : DEntry) (put15 : Int) (drop16 : Int) : Option (Lr (Int × Int) (Int × Int)) :=
  Option.bind (x_spec_Puts (x85.o)) fun r66 => xg (inI (put15 + r66)) <| Option.bind (x_spec_Drops (x85.o)) fun r76 => xg (inI (drop16 + r76)) <| some (Lr.go (put15 + r66, drop16 + r76))
noncomputable def x_spec_Gains_f0 (r7 : List DEntry) (k14 : Nat) (s86 : Int × Int) : Option (Lr (Int × Int) (Int × Int)) := x_spec_Gains_b0 r7 k14 (el r7 k14) s86.1 s86.2
noncomputable def x_spec_Gains (l : List DEntry) (client : Int) : Option (Int × Int) :=
  Option.bind (x_spec_ByClient l client) fun r7 => Option.bind (eachN (x_spec_Gains_f0 r7) (fun (s86 : Int × Int) => ((s86.1, s86.2) : Int × Int)) r7.length 0 (0, 0)) fun (y87 : Int × Int) => some (y87.1, y87.2)
theorem ct_spec_Gains (w : World) (X S : Bs) (l : List DEntry) (s_l : Sv) (client : Int) (hS : ∀ b, S b → b < w.heap.size ∧ ¬ X b) (a_l_0 : (cSl 3 fDEntry l).rd S w s_l.v) (oL : Sep [] X w) {r : Int × Int} (hx : x_spec_Gains l client = some r) :
    Ret Try.prog 37 [s_l.v, (.int .i64 client)] w (fun u w' => ∃ _ : Unit, u = .tuple #[(.int .i64 r.1), (.int .i64 r.2)] ∧ Gives X S w [] [] w') := by
  unfold x_spec_Gains at hx
  refine enter Try.func37 rfl Try.ntmps37 (by kernel_rfl) rfl ?_
  have hM := St.enter oL hS
  have hM := hM.addE (r := rV s_l.v (cSl 3 fDEntry l)) a_l_0
  refine wc_seq ?_
  refine wc_region ?_
  refine wv rfl (r_assign rfl) ?_
  refine wv rfl (r_assign rfl) ?_
  refine wl_nil ?_
  refine sq_n ?_
  refine wc_seq ?_
  refine wc_region ?_
  refine wv rfl (r_assign rfl) ?_
  refine wl_nil ?_
  refine sq_n ?_
  refine wc_seq ?_
  refine wc_region ?_
  refine wv rfl (r_assign rfl) ?_
  refine wl_nil ?_
  refine sq_n ?_
  refine wc_seq ?_
  refine wc_seq ?_
  refine wc_region ?_
  refine wv rfl (r_move rfl) ?_
  refine wv rfl (r_move rfl) ?_
  obtain ⟨r98, h99, hx⟩ := bind_some' hx
  refine w_call rfl rfl (hM.callO (l := []) fun X S oL hS hR hO => ct_spec_ByClient _ X S l s_l client hS (hR _ (.head _)) oL h99) ?_
  rintro _ w100 ⟨s101, rfl, hM⟩
  replace hM : St ⟨w, X, S⟩ [oC (cSl 3 fDEntry r98) s101.v] [rV s_l.v (cSl 3 fDEntry l)] _ := hM
  refine wv rfl (r_lenC Try.underlying44 rfl (hM.seeO (.head _))) ?_
  refine wv rfl (r_move rfl) ?_
  refine wl_nil ?_
  refine sq_n ?_
  refine wc_block ?_
  obtain ⟨y105, hx, hx106⟩ := bind_some' hx
  have hM := hM.fewer rsN
  replace hM : St ⟨w, X, S⟩ [oC (cSl 3 fDEntry r98) s101.v] [] _ := hM
  have hl112 := Cs.le (hM.seeO (.head _))
  refine wc_loop (un fun (m109 : Nat) => un fun (k110 : Nat) => un fun (put107 : Int) => fun (drop108 : Int) => [(6, (.int .i64 put107)), (7, (.int .i64 drop108)), (12, s101.v), (13, (.int .i64 (r98.length : Int))), (14, (.int .i64 (k110 : Int)))]) (un fun (m109 : Nat) => un fun (k110 : Nat) => un fun (put107 : Int) => fun (drop108 : Int) w' => St ⟨w, X, S⟩ [oC (cSl 3 fDEntry r98) s101.v] [] w' ∧ eachN _ _ m109 k110 (put107, drop108) = some y105 ∧ k110 + m109 = r98.length) (fun p => p.1) (r98.length, 0, 0, 0) ⟨rfl, rfl, rfl, rfl, rfl, trivial⟩ ⟨hM, hx, Nat.zero_add _⟩ ?_
  rintro ⟨m109, k110, put107, drop108⟩ w113 ⟨hM, hx, hk111⟩
  refine wc_seq ?_
  refine wc_region ?_
  refine wv rfl (r_lss rfl rfl) ?_
  refine wl_nil ?_
  refine sq_n ?_
  refine wc_seq ?_
  refine wc_cond rfl (fun hc115 => ?_) (fun hc115 => ?_)
  · replace hc115 := of_decide_eq_true hc115
    obtain ⟨m116, z117, rfl, hk111, hx, hx118⟩ := eachN_step hx hk111 hc115
    unfold x_spec_Gains_f0 x_spec_Gains_b0 at hx
    try dsimp only at hx
    refine wc_skip ?_
    refine sq_n ?_
    refine wc_seq ?_
    refine wc_block ?_
    refine wc_seq ?_
    refine wc_region ?_
    have hi120 : k110 < r98.length := by omega
    refine wv rfl (r_ixC Try.underlying44 sz107 rfl rfl (hM.seeO (.head _)) ⟨by omega, hc115⟩) ?_
    obtain ⟨s122, hM, hc123⟩ := hM.leafO (i := k110) (j := 2) (fun _ => rfl) hi120 rfl
    refine wv rfl (r_ldC (o := k110 * 3) Try.underlying107 sz107 rfl (us := [(.int .i64 ((el r98 k110).client)), (.int .i64 ((el r98 k110).seq)), s122.v]) rfl (hM.seeOV (.head _)) hi120 ⟨(Cs.get (i := k110) (j := 0) (hM.seeOV (.head _)) (fun _ => rfl) hi120 rfl), (Cs.get (i := k110) (j := 1) (hM.seeOV (.head _)) (fun _ => rfl) hi120 rfl), (hc123 _ (Rel.refl _)), trivial⟩) ?_
    refine w_ex rfl (x_alloc sz107 hM ?_); intro b125 w124 hR126 hM
    replace hM : St ⟨w, X, S⟩ [oBox b125 #[(.int .i64 0), (.int .i64 0), (.slice none 0 0)] 107, oV (oC (cSl 3 fDEntry r98) s101.v) [vR s122.v (cSl 3 fDPart ((el r98 k110).o)), vC (eaddr s101.v (k110 * 3 + 2)) s122.v]] [] _ := hM
    refine w_exu (x_stB #[(.int .i64 ((el r98 k110).client)), (.int .i64 ((el r98 k110).seq)), s122.v] sz107 rfl rfl rfl rfl rfl rfl hM ?_); intro w128 hM
    refine wl_nil ?_
    refine sq_n ?_
    refine wc_seq ?_
    refine wc_region ?_
    refine wv rfl (r_move rfl) ?_
    refine wv rfl (r_fld Try.underlying107 rfl rfl sz31 rfl) ?_
    refine wv rfl (r_ldB Try.underlying31 rfl rfl hM (.head _) rfl) ?_
    obtain ⟨r133, h134, hx⟩ := bind_some' hx
    refine w_call rfl rfl (hM.callV fun X S oL hS hR hO => ct_spec_Puts _ X S ((el r98 k110).o) s122 hS (seeAW hO (.tail _ (.head _)) (.head _)) oL h134) ?_
    rintro _ w135 ⟨rfl, hR136⟩
    have hM := hM.call hR136
    obtain ⟨hg138, hx⟩ := xg_some hx
    refine wv rfl (r_add rfl rfl hg138) ?_
    refine wv rfl (r_assign rfl) ?_
    refine wl_nil ?_
    refine sq_n ?_
    refine wc_region ?_
    refine wv rfl (r_move rfl) ?_
    refine wv rfl (r_fld Try.underlying107 rfl rfl sz31 rfl) ?_
    refine wv rfl (r_ldB Try.underlying31 rfl rfl hM (.head _) rfl) ?_
    obtain ⟨r143, h144, hx⟩ := bind_some' hx
    refine w_call rfl rfl (hM.callV fun X S oL hS hR hO => ct_spec_Drops _ X S ((el r98 k110).o) s122 hS (seeAW hO (.tail _ (.head _)) (.head _)) oL h144) ?_
    rintro _ w145 ⟨rfl, hR146⟩
    have hM := hM.call hR146
    obtain ⟨hg148, hx⟩ := xg_some hx
    refine wv rfl (r_add rfl rfl hg148) ?_
    refine wv rfl (r_assign rfl) ?_
    refine wl_nil ?_
    refine bk_n ?_
    refine sq_n ?_
    refine wc_region ?_
    refine wv rfl (r_add rfl rfl ⟨by omega, by omega⟩) ?_
    refine wv rfl (r_move rfl) ?_
    refine wl_nil ?_
    obtain rfl := Option.some.inj hx
    replace hM : St ⟨w, X, S⟩ [oV (oC (cSl 3 fDEntry r98) s101.v) [vR s122.v (cSl 3 fDPart ((el r98 k110).o)), vC (eaddr s101.v (k110 * 3 + 2)) s122.v], oBox b125 #[(.int .i64 ((el r98 k110).client)), (.int .i64 ((el r98 k110).seq)), s122.v] 107] [] _ := hM.pl [1]
    replace hM : St ⟨w, X, S⟩ [oC (cSl 3 fDEntry r98) s101.v, oBox b125 #[(.int .i64 ((el r98 k110).client)), (.int .i64 ((el r98 k110).seq)), s122.v] 107] [] _ := hM.unview
    replace hM : St ⟨w, X, S⟩ [oC (cSl 3 fDEntry r98) s101.v] [] _ := hM.tk 1
    exact lp_end (m116, k110 + 1, put107 + r133, drop108 + r143) (Nat.lt_succ_self _) ⟨rfl, rfl, rfl, rfl, rfl, trivial⟩ ⟨hM, hx118, hk111⟩
  · replace hc115 := of_decide_eq_false hc115
    obtain rfl := eachN_end hx hk111 hc115
    refine wc_exit ?_
    refine sq_exit ?_
    refine lp1_exit ?_
    replace hx := hx106
    try dsimp only [Sum.elim_inl, Sum.elim_inr] at hx
    refine bk_here ?_
    refine sq_n ?_
    refine wc_seq ?_
    refine wc_region ?_
    refine wv rfl (r_move rfl) ?_
    refine wv rfl (r_move rfl) ?_
    refine wv rfl (r_assign rfl) ?_
    refine wv rfl (r_assign rfl) ?_
    refine wl_nil ?_
    refine sq_n ?_
    refine wc_ret ?_
    obtain rfl := Option.some.inj hx
    refine fin_ret [(.int .i64 put107), (.int .i64 drop108)] ⟨rfl, rfl, trivial⟩ ?_
    replace hM : St ⟨w, X, S⟩ [] [] _ := hM.tk 0
    have hM := hM.fewer rsN
    exact ⟨(), rfl, hM.gives⟩

end Go.Proofs.Ytbghemgoeemdfaa
