/- Walks of functions of this program (printed by a program of ours, by the rules of the layer). No condition. -/
import Derived.Test.YtjbonmmmcnpjiaaGreatDoorG7
import Derived.Test.YtjbonmmmcnpjiaaGreatDoorNz
namespace Go.Proofs.YtjbonmmmcnpjiaaGreatDoor
open Go.RowKit

noncomputable def x_impl_ApplyAll_b0 (_l : List (List DPart)) (_k20 : Nat) (x78 : List DPart) (out21 : List Int) : Option (Lr (List Int) (Sum (List Int) Unit)) :=
  Option.bind (x_impl_Apply x78 out21) fun r60 => bif !r60.2 then (some (Lr.out (Sum.inr (())))) else (some (Lr.go r60.1))
noncomputable def x_impl_ApplyAll_f0 (l : List (List DPart)) (k20 : Nat) (s79 : List Int) : Option (Lr (List Int) (Sum (List Int) Unit)) := x_impl_ApplyAll_b0 l k20 (el l k20) s79
noncomputable def x_impl_ApplyAll (l : List (List DPart)) (t : List Int) : Option (List Int × Bool) :=
  Option.bind (x_impl_TextOk t) fun r4 => bif !r4 then (some ([], false)) else (Option.bind (x_impl_copyInts t) fun r11 => Option.bind (eachN (x_impl_ApplyAll_f0 l) (fun (s79 : List Int) => (Sum.inl s79 : Sum (List Int) Unit)) l.length 0 r11) fun (y80 : Sum (List Int) Unit) => Sum.elim (fun y81 => some (y81, true)) (fun _y82 => some ([], false)) y80)
theorem ct_impl_ApplyAll (w : World) (X S : Bs) (l : List (List DPart)) (s_l : Sv) (t : List Int) (s_t : Sv) (hS : SX X S w) (a_l_0 : (cSl 1 fLDPart l).rd S w s_l.v) (a_t_0 : (cSl 1 fI t).rd S w s_t.v) (oL : Sep [] X w) {r : List Int × Bool} (hx : x_impl_ApplyAll l t = some r) :
 Ret Tryz.prog 150 [s_l.v, s_t.v] w (fun u w' => ∃ y : Sv, u = .tuple #[y.v, (bv r.2)] ∧ Gives X S w [oC (cSl 1 fI r.1) y.v] [] w') := by
 unfold x_impl_ApplyAll at hx
 refine enter Tryz.func150 rfl Tryz.ntmps150 (by kernel_rfl) rfl ?_
 have hM := ((St.enter oL hS).addV a_l_0).addV a_t_0
 refine wc_sr <| was rfl rfl <| was rfl rfl <| wl_sq <| wc_seq <| wc_sr <| wmv rfl rfl <| bs hx fun _ h92 hx => w_cv hM rfl rfl (fun X S oL hS hR hO => ct_impl_TextOk _ X S t s_t hS (hR _ m0) oL h92) fun _ hM => wv rfl (r_not rfl) <| wl_sq ?_
 refine wcx hx rfl (fun hx => ?_) (fun hx => ?_)
 refine wc_sr <| was rfl rfl <| was rfl rfl <| wl_sq <| wc_ret <| sq_ret ?_
 obtain rfl := oi hx
 have hM := hM.nil0 (T := Int) 1 fI
 refine fin_ret [nS.v, (bv false)] ⟨rfl, rfl, trivial⟩ ?_
 replace hM := hM.t1
 exact ⟨nS, rfl, (hM.fewer rsN).gives⟩
 refine wc_skip <| sq_n <| wc_sr <| wmv rfl rfl <| bs hx fun r100 h101 hx => w_call rfl rfl (hM.callO (l := []) fun X S oL hS hR hO => ct_impl_copyInts _ X S t s_t hS (hR _ m0) oL h101) ?_
 rintro _ w102 ⟨s103, rfl, hM⟩
 dsimp only [List.cons_append, List.nil_append] at hM
 refine was rfl rfl <| wl_sq <| wc_seq <| wc_sr <| wmv rfl rfl <| wv rfl (r_lenC u174 rfl (hM.seeR m1)) <| wmv rfl rfl <| wl_sq <| wc_block <| bs hx fun y109 hx hx110 => ?_
 have hM := hM.fewer (rsC m1 rsN)
 replace hM : St ⟨w, X, S⟩ [oC (cSl 1 fI r100) s103.v] [rV s_l.v (cSl 1 fLDPart l)] _ := hM
 have hl117 := Cs.le (hM.seeR m0)
 refine wc_loop (un fun (m114 : Nat) => un fun (k115 : Nat) => un fun (out111 : List Int) => fun (s113 : Sv) => [(6, s113.v), (16, s_l.v), (17, (iv (l.length : Int))), (18, (iv (k115 : Int)))]) (un fun (m114 : Nat) => un fun (k115 : Nat) => un fun (out111 : List Int) => fun (s113 : Sv) w' => St ⟨w, X, S⟩ [oC (cSl 1 fI out111) s113.v] [rV s_l.v (cSl 1 fLDPart l)] w' ∧ eachN _ _ m114 k115 out111 = some y109 ∧ k115 + m114 = l.length) (fun p => p.1) (l.length, 0, r100, s103) ⟨rfl, rfl, rfl, rfl, trivial⟩ ⟨hM, hx, Nat.zero_add _⟩ ?_
 rintro ⟨m114, k115, out111, s113⟩ w118 ⟨hM, hx, hk116⟩
 refine wc_sr <| wv rfl (r_lss rfl rfl) <| wl_sq <| wc_seq ?_
 refine wc_cond rfl (fun hc120 => ?_) (fun hc120 => ?_)
 replace hc120 := of_decide_eq_true hc120
 obtain ⟨m121, z122, rfl, hk116, hx, hx123⟩ := eachN_step hx hk116 hc120
 unfold x_impl_ApplyAll_f0 x_impl_ApplyAll_b0 at hx
 try dsimp only at hx
 refine wc_skip <| sq_n <| wc_seq <| wc_block <| wc_sr ?_
 have hi125 : k115 < l.length := by omega
 refine wv rfl (r_ixC u174 sz57 rfl rfl (hM.seeR m0) ⟨by omega, hc120⟩) ?_
 obtain ⟨s127, hM, hc128⟩ := hM.leaf (i := k115) (j := 0) m0 (fun _ => rfl) hi125 rfl
 refine wv rfl (r_ld u57 rfl rfl (hc128 _ (Rel.refl _))) <| was rfl rfl <| wl_sq <| wc_sr <| wmv rfl rfl <| wmv rfl rfl <| bs hx fun r132 h133 hx => w_call rfl rfl (hM.callO (l := []) fun X S oL hS hR hO => ct_impl_Apply _ X S (el l k115) s127 out111 s113 hS (hR _ m0) (seeA hO m0) oL h133) ?_
 rintro _ w134 ⟨s135, rfl, hM⟩
 dsimp only [List.cons_append, List.nil_append] at hM
 refine wmv rfl rfl <| wv rfl (r_extract rfl rfl) <| wv rfl (r_extract rfl rfl) <| was rfl rfl <| was rfl rfl <| wl_sq <| wc_seq <| wc_sr <| wmv rfl rfl <| wv rfl (r_not rfl) <| wl_sq ?_
 refine wcx hx rfl (fun hx => ?_) (fun hx => ?_)
 refine wc_sr <| was rfl rfl <| was rfl rfl <| wl_sq <| wc_ret <| sq_ret <| bk_ret <| sq_ret <| lp1_ret ?_
 cases hx
 obtain rfl := oi hx123
 replace hx := hx110
 refine bk_ret <| sq_ret ?_
 obtain rfl := oi hx
 have hM := hM.nil0 (T := Int) 1 fI
 refine fin_ret [nS.v, (bv false)] ⟨rfl, rfl, trivial⟩ ?_
 replace hM := hM.t1
 exact ⟨nS, rfl, (hM.fewer rsN).gives⟩
 refine wc_skip <| sq_n <| wc_region <| wmv rfl rfl <| was rfl rfl <| wl_nil <| bk_n <| sq_n <| wc_region <| wv rfl (r_add rfl rfl ⟨by omega, by omega⟩) <| wmv rfl rfl <| wl_nil ?_
 obtain rfl := oi hx
 replace hM := hM.t1
 have hM := hM.fewer (rsC m1 rsN)
 replace hM : St ⟨w, X, S⟩ [oC (cSl 1 fI r132.1) s135.v] [rV s_l.v (cSl 1 fLDPart l)] _ := hM
 exact lp_end (m121, k115 + 1, r132.1, s135) (Nat.lt_succ_self _) ⟨rfl, rfl, rfl, rfl, trivial⟩ ⟨hM, hx123, hk116⟩
 replace hc120 := of_decide_eq_false hc120
 obtain rfl := eachN_end hx hk116 hc120
 refine wc_exit <| sq_exit <| lp1_exit ?_
 replace hx := hx110
 refine bk_here <| sq_n <| wc_sr <| wmv rfl rfl <| was rfl rfl <| was rfl rfl <| wl_sq <| wc_ret ?_
 obtain rfl := oi hx
 refine fin_ret [s113.v, (bv true)] ⟨rfl, rfl, trivial⟩ ?_
 replace hM := hM.t1
 exact ⟨s113, rfl, (hM.fewer rsN).gives⟩

noncomputable def x_impl_EntryOk (e : DEntry) : Option Bool :=
  Option.bind (x_impl_within e.client 1 8) fun r8 => Option.bind (bif r8 then (Option.bind (x_impl_within e.seq 1 1000000000) fun r21 => some r21) else (some false)) fun c12 => Option.bind (bif c12 then (Option.bind (x_impl_IsNorm e.o) fun r34 => some r34) else (some false)) fun c25 => some c25
theorem ct_impl_EntryOk (w : World) (X S : Bs) (e : DEntry) (s_e_2 : Sv) (hS : SX X S w) (a_e_2 : (cSl 3 fDPart e.o).rd S w s_e_2.v) (oL : Sep [] X w) {r : Bool} (hx : x_impl_EntryOk e = some r) :
 Ret Tryz.prog 149 [(.agg #[(iv e.client), (iv e.seq), s_e_2.v])] w (KV X S w (bv r)) := by
 unfold x_impl_EntryOk at hx
 refine enter Tryz.func149 rfl Tryz.ntmps149 (by kernel_rfl) rfl ?_
 have hM := (St.enter oL hS).addV a_e_2
 refine wc_sr ?_
 refine w_ex rfl (x_box rfl hM ?_); intro b39 w38 hR40 hM
 refine was rfl rfl <| wl_sq <| wc_sr <| wv rfl (r_fld u158 rfl rfl sz3 rfl) <| wv rfl (r_ldB u3 rfl rfl hM m0 rfl) <| bs hx fun _ h46 hx => w_cv hM rfl rfl (fun X S oL hS hR hO => ct_impl_within _ X S e.client (1 : Int) (8 : Int) hS  oL h46) fun _ hM => wmv rfl rfl <| bs hx fun c49 hx hx56 => ?_
 refine wl_midH 4 [(10, (bv c49)), (1, (pt b39 0))] hM ?_ fun w57 hM => ?_
 refine cs2 hx (fun hg50 hx => ?_) (fun hg50 hx => ?_)
 refine gv rfl hg50 rfl (r_fld u158 rfl rfl sz3 rfl) <| gv rfl hg50 rfl (r_ldB u3 rfl rfl hM m0 rfl) <| bs hx fun _ h61 hx => g_cv hM hg50 rfl rfl rfl (fun X S oL hS hR hO => ct_impl_within _ X S e.seq (1 : Int) (1000000000 : Int) hS  oL h61) fun _ hM => wv rfl (p_t rfl hg50 rfl) ?_
 obtain rfl := oi hx
 exact mid_h ⟨rfl, rfl, trivial⟩ hM
 refine gn hg50 rfl rfl <| gn hg50 rfl rfl <| gn hg50 rfl rfl <| wv rfl (p_f rfl hg50 rfl) ?_
 obtain rfl := oi hx
 exact mid_h ⟨rfl, rfl, trivial⟩ hM
 replace hx := hx56
 refine wmv rfl rfl <| bs hx fun c64 hx hx71 => ?_
 refine wl_midH 4 [(15, (bv c64))] hM ?_ fun w72 hM => ?_
 refine cs2 hx (fun hg65 hx => ?_) (fun hg65 hx => ?_)
 refine gv rfl hg65 rfl (r_fld u158 rfl rfl sz57 rfl) <| gv rfl hg65 rfl (r_ldB u57 rfl rfl hM m0 rfl) <| bs hx fun _ h76 hx => g_cv hM hg65 rfl rfl rfl (fun X S oL hS hR hO => ct_impl_IsNorm _ X S e.o s_e_2 hS (hR _ m0) oL h76) fun _ hM => wv rfl (p_t rfl hg65 rfl) ?_
 obtain rfl := oi hx
 exact mid_h ⟨rfl, trivial⟩ hM
 refine gn hg65 rfl rfl <| gn hg65 rfl rfl <| gn hg65 rfl rfl <| wv rfl (p_f rfl hg65 rfl) ?_
 obtain rfl := oi hx
 exact mid_h ⟨rfl, trivial⟩ hM
 replace hx := hx71
 refine was rfl rfl <| wl_sq <| wc_ret ?_
 obtain rfl := oi hx
 exact fin_u [(bv c64)] hM ⟨rfl, trivial⟩ rfl

noncomputable def x_spec_EntryOk (e : DEntry) : Option Bool :=
  Option.bind (x_spec_l01In e.client 1 8) fun r8 => Option.bind (bif r8 then (Option.bind (x_spec_l01In e.seq 1 1000000000) fun r21 => some r21) else (some false)) fun c12 => Option.bind (bif c12 then (Option.bind (x_spec_IsNorm e.o) fun r34 => some r34) else (some false)) fun c25 => some c25
theorem ct_spec_EntryOk (w : World) (X S : Bs) (e : DEntry) (s_e_2 : Sv) (hS : SX X S w) (a_e_2 : (cSl 3 fDPart e.o).rd S w s_e_2.v) (oL : Sep [] X w) {r : Bool} (hx : x_spec_EntryOk e = some r) :
 Ret Tryz.prog 143 [(.agg #[(iv e.client), (iv e.seq), s_e_2.v])] w (KV X S w (bv r)) := by
 unfold x_spec_EntryOk at hx
 refine enter Tryz.func143 rfl Tryz.ntmps143 (by kernel_rfl) rfl ?_
 have hM := (St.enter oL hS).addV a_e_2
 refine wc_sr ?_
 refine w_ex rfl (x_box rfl hM ?_); intro b39 w38 hR40 hM
 refine was rfl rfl <| wl_sq <| wc_sr <| wv rfl (r_fld u158 rfl rfl sz3 rfl) <| wv rfl (r_ldB u3 rfl rfl hM m0 rfl) <| bs hx fun _ h46 hx => w_cv hM rfl rfl (fun X S oL hS hR hO => ct_spec_l01In _ X S e.client (1 : Int) (8 : Int) hS  oL h46) fun _ hM => wmv rfl rfl <| bs hx fun c49 hx hx56 => ?_
 refine wl_midH 4 [(10, (bv c49)), (1, (pt b39 0))] hM ?_ fun w57 hM => ?_
 refine cs2 hx (fun hg50 hx => ?_) (fun hg50 hx => ?_)
 refine gv rfl hg50 rfl (r_fld u158 rfl rfl sz3 rfl) <| gv rfl hg50 rfl (r_ldB u3 rfl rfl hM m0 rfl) <| bs hx fun _ h61 hx => g_cv hM hg50 rfl rfl rfl (fun X S oL hS hR hO => ct_spec_l01In _ X S e.seq (1 : Int) (1000000000 : Int) hS  oL h61) fun _ hM => wv rfl (p_t rfl hg50 rfl) ?_
 obtain rfl := oi hx
 exact mid_h ⟨rfl, rfl, trivial⟩ hM
 refine gn hg50 rfl rfl <| gn hg50 rfl rfl <| gn hg50 rfl rfl <| wv rfl (p_f rfl hg50 rfl) ?_
 obtain rfl := oi hx
 exact mid_h ⟨rfl, rfl, trivial⟩ hM
 replace hx := hx56
 refine wmv rfl rfl <| bs hx fun c64 hx hx71 => ?_
 refine wl_midH 4 [(15, (bv c64))] hM ?_ fun w72 hM => ?_
 refine cs2 hx (fun hg65 hx => ?_) (fun hg65 hx => ?_)
 refine gv rfl hg65 rfl (r_fld u158 rfl rfl sz57 rfl) <| gv rfl hg65 rfl (r_ldB u57 rfl rfl hM m0 rfl) <| bs hx fun _ h76 hx => g_cv hM hg65 rfl rfl rfl (fun X S oL hS hR hO => ct_spec_IsNorm _ X S e.o s_e_2 hS (hR _ m0) oL h76) fun _ hM => wv rfl (p_t rfl hg65 rfl) ?_
 obtain rfl := oi hx
 exact mid_h ⟨rfl, trivial⟩ hM
 refine gn hg65 rfl rfl <| gn hg65 rfl rfl <| gn hg65 rfl rfl <| wv rfl (p_f rfl hg65 rfl) ?_
 obtain rfl := oi hx
 exact mid_h ⟨rfl, trivial⟩ hM
 replace hx := hx71
 refine was rfl rfl <| wl_sq <| wc_ret ?_
 obtain rfl := oi hx
 exact fin_u [(bv c64)] hM ⟨rfl, trivial⟩ rfl

noncomputable def x_impl_opsOf_b0 (_list : List DEntry) (_k35 : Nat) (x93 : DEntry) (out36 : List (List DPart)) : Option (Lr (List (List DPart)) (List (List DPart))) :=
  Option.bind (x_impl_copyOp (x93.o)) fun r81 => xg (out36.length < 1099511627776) <| some (Lr.go (out36 ++ [r81]))
noncomputable def x_impl_opsOf_f0 (list : List DEntry) (k35 : Nat) (s94 : List (List DPart)) : Option (Lr (List (List DPart)) (List (List DPart))) := x_impl_opsOf_b0 list k35 (el list k35) s94
noncomputable def x_impl_opsOf (list : List DEntry) : Option (List (List DPart)) :=
  Option.bind (eachN (x_impl_opsOf_f0 list) (fun (s94 : List (List DPart)) => (s94 : List (List DPart))) list.length 0 []) fun (y95 : List (List DPart)) => some y95
theorem ct_impl_opsOf (w : World) (X S : Bs) (list : List DEntry) (s_list : Sv) (hS : SX X S w) (a_list_0 : (cSl 3 fDEntry list).rd S w s_list.v) (oL : Sep [] X w) {r : List (List DPart)} (hx : x_impl_opsOf list = some r) :
 Ret Tryz.prog 151 [s_list.v] w (fun u w' => ∃ y : Sv, u = y.v ∧ Gives X S w [oC (cSl 1 fLDPart r) y.v] [] w') := by
 unfold x_impl_opsOf at hx
 refine enter Tryz.func151 rfl Tryz.ntmps151 (by kernel_rfl) rfl ?_
 have hM := (St.enter oL hS).addV a_list_0
 refine wc_sr <| was rfl rfl <| wl_sq <| wc_sr <| was rfl rfl <| wl_sq <| wc_seq <| wc_sr <| wmv rfl rfl <| wv rfl (r_lenC u60 rfl (hM.seeR m0)) <| wmv rfl rfl <| wl_sq <| wc_block <| bs hx fun y105 hx hx106 => ?_
 have hM := hM.nil0 (T := List DPart) 1 fLDPart
 have hl114 := Cs.le (hM.seeR m0)
 refine wc_loop (un fun (m111 : Nat) => un fun (k112 : Nat) => un fun (out108 : List (List DPart)) => fun (s110 : Sv) => [(3, s110.v), (6, s_list.v), (7, (iv (list.length : Int))), (8, (iv (k112 : Int)))]) (un fun (m111 : Nat) => un fun (k112 : Nat) => un fun (out108 : List (List DPart)) => fun (s110 : Sv) w' => St ⟨w, X, S⟩ [oC (cSl 1 fLDPart out108) s110.v] [rV s_list.v (cSl 3 fDEntry list)] w' ∧ eachN _ _ m111 k112 out108 = some y105 ∧ k112 + m111 = list.length) (fun p => p.1) (list.length, 0, [], nS) ⟨rfl, rfl, rfl, rfl, trivial⟩ ⟨hM, hx, Nat.zero_add _⟩ ?_
 rintro ⟨m111, k112, out108, s110⟩ w115 ⟨hM, hx, hk113⟩
 refine wc_sr <| wv rfl (r_lss rfl rfl) <| wl_sq <| wc_seq ?_
 refine wc_cond rfl (fun hc117 => ?_) (fun hc117 => ?_)
 replace hc117 := of_decide_eq_true hc117
 obtain ⟨m118, z119, rfl, hk113, hx, hx120⟩ := eachN_step hx hk113 hc117
 unfold x_impl_opsOf_f0 x_impl_opsOf_b0 at hx
 try dsimp only at hx
 refine wc_skip <| sq_n <| wc_seq <| wc_block <| wc_sr ?_
 have hi122 : k112 < list.length := by omega
 refine wv rfl (r_ixC u60 sz158 rfl rfl (hM.seeR m0) ⟨by omega, hc117⟩) ?_
 obtain ⟨s124, hM, hc125⟩ := hM.leaf (i := k112) (j := 2) m0 (fun _ => rfl) hi122 rfl
 refine wv rfl (r_ldC (o := k112 * 3) u158 sz158 rfl (us := [(iv ((el list k112).client)), (iv ((el list k112).seq)), s124.v]) rfl (hM.seeR m1) hi122 ⟨(Cs.get (i := k112) (j := 0) (hM.seeR m1) (fun _ => rfl) hi122 rfl), (Cs.get (i := k112) (j := 1) (hM.seeR m1) (fun _ => rfl) hi122 rfl), (hc125 _ (Rel.refl _)), trivial⟩) ?_
 refine w_ex rfl (x_alloc sz158 hM ?_); intro b127 w126 hR128 hM
 refine w_exu (x_stB #[(iv ((el list k112).client)), (iv ((el list k112).seq)), s124.v] sz158 rfl rfl rfl rfl rfl rfl hM ?_); intro w130 hM
 refine wl_sq <| wc_region <| wmv rfl rfl <| wv rfl (r_fld u158 rfl rfl sz57 rfl) <| wv rfl (r_ldB u57 rfl rfl hM m0 rfl) <| bs hx fun r135 h136 hx => w_call rfl rfl (hM.callO (l := []) fun X S oL hS hR hO => ct_impl_copyOp _ X S ((el list k112).o) s124 hS (hR _ m0) oL h136) ?_
 rintro _ w137 ⟨s138, rfl, hM⟩
 dsimp only [List.cons_append, List.nil_append] at hM
 replace hM := hM.p2
 refine xgs hx fun hg143 hx => ?_
 refine w_push (f := fLDPart) r135 rfl rfl u174 sz57 rfl rfl rfl rfl (fun _ => rfl) hM (fun _ => zO zN) rfl hg143 rfl ?_; intro u141 s142 w140 hM
 refine was rfl rfl <| wl_nil <| bk_n <| sq_n <| wc_region <| wv rfl (r_add rfl rfl ⟨by omega, by omega⟩) <| wmv rfl rfl <| wl_nil ?_
 cases hx
 replace hM := hM.t1
 have hM := hM.fewer (rsC m1 rsN)
 replace hM : St ⟨w, X, S⟩ [oC (cSl 1 fLDPart (out108 ++ [r135])) s142.v] [rV s_list.v (cSl 3 fDEntry list)] _ := hM
 exact lp_end (m118, k112 + 1, out108 ++ [r135], s142) (Nat.lt_succ_self _) ⟨rfl, rfl, rfl, rfl, trivial⟩ ⟨hM, hx120, hk113⟩
 replace hc117 := of_decide_eq_false hc117
 obtain rfl := eachN_end hx hk113 hc117
 refine wc_exit <| sq_exit <| lp1_exit ?_
 replace hx := hx106
 refine bk_here <| sq_n <| wc_sr <| wmv rfl rfl <| was rfl rfl <| wl_sq <| wc_ret ?_
 obtain rfl := oi hx
 refine fin_ret [s110.v] ⟨rfl, trivial⟩ ?_
 replace hM := hM.t1
 exact ⟨s110, rfl, (hM.fewer rsN).gives⟩

end Go.Proofs.YtjbonmmmcnpjiaaGreatDoor
