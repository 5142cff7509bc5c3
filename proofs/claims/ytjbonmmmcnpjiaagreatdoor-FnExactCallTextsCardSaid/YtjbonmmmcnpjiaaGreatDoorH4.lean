/- Walks of functions of this program (printed by a program of ours, by the rules of the layer). No condition. -/
import Derived.Test.YtjbonmmmcnpjiaaGreatDoorT3
import Derived.Test.YtjbonmmmcnpjiaaGreatDoorNw
import Derived.Test.YtjbonmmmcnpjiaaGreatDoorNx
import Derived.Test.YtjbonmmmcnpjiaaGreatDoorNy
namespace Go.Proofs.YtjbonmmmcnpjiaaGreatDoor
open Go.RowKit

noncomputable def x_impl_CallTexts_b0 (_w_ : DWorld) (_k44 : Nat) (x110 : DTask) (out45 : List ByteArray) : Option (Lr (List ByteArray) (List ByteArray)) :=
  Option.bind (x_impl_CallText (x110.c)) fun r100 => xg (out45.length < 1099511627776) <| some (Lr.go (out45 ++ [r100]))
noncomputable def x_impl_CallTexts_f0 (w_ : DWorld) (k44 : Nat) (s111 : List ByteArray) : Option (Lr (List ByteArray) (List ByteArray)) := x_impl_CallTexts_b0 w_ k44 (el w_.tasks k44) s111
noncomputable def x_impl_CallTexts (w_ : DWorld) : Option (List ByteArray) :=
  Option.bind (eachN (x_impl_CallTexts_f0 w_) (fun (s111 : List ByteArray) => (s111 : List ByteArray)) w_.tasks.length 0 []) fun (y112 : List ByteArray) => some y112
theorem ct_impl_CallTexts (w : World) (X S : Bs) (w_ : DWorld) (s_w__1 : Sv) (s_w__2 : Sv) (s_w__4 : Sv) (s_w__5 : Sv) (s_w__6 : Sv) (hS : SX X S w) (hT : rTab.ok S w) (hU : rMax.ok S w) (a_w__1 : (cSl 5 fDDoc w_.h.docs).rd S w s_w__1.v) (a_w__2 : (cSl 6 fDSub w_.h.subs).rd S w s_w__2.v) (a_w__4 : (cSl 1 fI w_.locks).rd S w s_w__4.v) (a_w__5 : (cSl 2 fDQueue w_.queues).rd S w s_w__5.v) (a_w__6 : (cSl 15 fDTask w_.tasks).rd S w s_w__6.v) (oL : Sep [] X w) {r : List ByteArray} (hx : x_impl_CallTexts w_ = some r) :
 Ret Tryz.prog 11 [(.agg #[(bv w_.h.shut), s_w__1.v, s_w__2.v, (iv w_.h.last), s_w__4.v, s_w__5.v, s_w__6.v, (iv w_.step)])] w (fun u w' => ∃ y : Sv, u = y.v ∧ Gives X S w [oC (cSl 1 fT r) y.v] [] w') := by
 unfold x_impl_CallTexts at hx
 refine enter Tryz.func11 rfl Tryz.ntmps11 (by kernel_rfl) rfl ?_
 have hM := St.enter oL hS
 have hM := hM.addE (r := rTab) hT
 have hM := hM.addE (r := rMax) hU
 have hM := hM.addV a_w__1
 have hM := hM.addV a_w__2
 have hM := hM.addV a_w__4
 have hM := hM.addV a_w__5
 have hM := hM.addV a_w__6
 refine wc_sr ?_
 refine w_ex rfl (x_box rfl hM ?_); intro b118 w117 hR119 hM
 refine was rfl rfl <| wl_sq <| wc_sr <| was rfl rfl <| wl_sq <| wc_seq <| wc_sr <| wv rfl (r_fld u40 rfl rfl sz38 rfl) <| wv rfl (r_ldB u38 rfl rfl hM m0 rfl) <| wv rfl (r_lenC u38 rfl (hM.seeR m0)) <| wmv rfl rfl <| wl_sq <| wc_block <| bs hx fun y127 hx hx128 => ?_
 have hM := hM.nil0 (T := ByteArray) 1 fT
 replace hM := hM.t1
 have hM := hM.fewer (rsC m5 (rsC m6 (rsC m0 rsN)))
 replace hM : St ⟨w, X, S⟩ [oC (cSl 1 fT ([] : List ByteArray)) nS.v] [rMax, rTab, rV s_w__6.v (cSl 15 fDTask w_.tasks)] _ := hM
 have hl136 := Cs.le (hM.seeR m2)
 refine wc_loop (un fun (m133 : Nat) => un fun (k134 : Nat) => un fun (out130 : List ByteArray) => fun (s132 : Sv) => [(3, s132.v), (7, s_w__6.v), (8, (iv (w_.tasks.length : Int))), (9, (iv (k134 : Int)))]) (un fun (m133 : Nat) => un fun (k134 : Nat) => un fun (out130 : List ByteArray) => fun (s132 : Sv) w' => St ⟨w, X, S⟩ [oC (cSl 1 fT out130) s132.v] [rMax, rTab, rV s_w__6.v (cSl 15 fDTask w_.tasks)] w' ∧ eachN _ _ m133 k134 out130 = some y127 ∧ k134 + m133 = w_.tasks.length) (fun p => p.1) (w_.tasks.length, 0, [], nS) ⟨rfl, rfl, rfl, rfl, trivial⟩ ⟨hM, hx, Nat.zero_add _⟩ ?_
 rintro ⟨m133, k134, out130, s132⟩ w137 ⟨hM, hx, hk135⟩
 refine wc_sr <| wv rfl (r_lss rfl rfl) <| wl_sq <| wc_seq ?_
 refine wc_cond rfl (fun hc139 => ?_) (fun hc139 => ?_)
 replace hc139 := of_decide_eq_true hc139
 obtain ⟨m140, z141, rfl, hk135, hx, hx142⟩ := eachN_step hx hk135 hc139
 unfold x_impl_CallTexts_f0 x_impl_CallTexts_b0 at hx
 try dsimp only at hx
 refine wc_skip <| sq_n <| wc_seq <| wc_block <| wc_sr ?_
 have hi144 : k134 < w_.tasks.length := by omega
 refine wv rfl (r_ixC u38 sz64 rfl rfl (hM.seeR m2) ⟨by omega, hc139⟩) ?_
 obtain ⟨s146, hM, hc147⟩ := hM.leaf (i := k134) (j := 5) m2 (fun _ => rfl) hi144 rfl
 obtain ⟨s148, hM, hc149⟩ := hM.leaf (i := k134) (j := 6) m3 (fun _ => rfl) hi144 rfl
 obtain ⟨s150, hM, hc151⟩ := hM.leaf (i := k134) (j := 13) m4 (fun _ => rfl) hi144 rfl
 obtain ⟨s152, hM, hc153⟩ := hM.leaf (i := k134) (j := 14) m5 (fun _ => rfl) hi144 rfl
 refine wv rfl (r_ldC (o := k134 * 15) u64 sz64 rfl (us := [(iv ((el w_.tasks k134).c.kind)), (.string ((el w_.tasks k134).c.doc)), (iv ((el w_.tasks k134).c.client)), (iv ((el w_.tasks k134).c.seq)), (iv ((el w_.tasks k134).c.n)), s146.v, s148.v, (iv ((el w_.tasks k134).pc)), (iv ((el w_.tasks k134).inv)), (iv ((el w_.tasks k134).lin)), (iv ((el w_.tasks k134).res)), (iv ((el w_.tasks k134).a.code)), (iv ((el w_.tasks k134).a.rev)), s150.v, s152.v]) rfl (hM.seeR m6) hi144 ⟨(Cs.get (i := k134) (j := 0) (hM.seeR m6) (fun _ => rfl) hi144 rfl), (Cs.get (i := k134) (j := 1) (hM.seeR m6) (fun _ => rfl) hi144 rfl), (Cs.get (i := k134) (j := 2) (hM.seeR m6) (fun _ => rfl) hi144 rfl), (Cs.get (i := k134) (j := 3) (hM.seeR m6) (fun _ => rfl) hi144 rfl), (Cs.get (i := k134) (j := 4) (hM.seeR m6) (fun _ => rfl) hi144 rfl), (hc147 _ (Rel.refl _)), (hc149 _ (Rel.refl _)), (Cs.get (i := k134) (j := 7) (hM.seeR m6) (fun _ => rfl) hi144 rfl), (Cs.get (i := k134) (j := 8) (hM.seeR m6) (fun _ => rfl) hi144 rfl), (Cs.get (i := k134) (j := 9) (hM.seeR m6) (fun _ => rfl) hi144 rfl), (Cs.get (i := k134) (j := 10) (hM.seeR m6) (fun _ => rfl) hi144 rfl), (Cs.get (i := k134) (j := 11) (hM.seeR m6) (fun _ => rfl) hi144 rfl), (Cs.get (i := k134) (j := 12) (hM.seeR m6) (fun _ => rfl) hi144 rfl), (hc151 _ (Rel.refl _)), (hc153 _ (Rel.refl _)), trivial⟩) ?_
 refine w_ex rfl (x_alloc sz64 hM ?_); intro b155 w154 hR156 hM
 refine w_exu (x_stB #[(iv ((el w_.tasks k134).c.kind)), (.string ((el w_.tasks k134).c.doc)), (iv ((el w_.tasks k134).c.client)), (iv ((el w_.tasks k134).c.seq)), (iv ((el w_.tasks k134).c.n)), s146.v, s148.v, (iv ((el w_.tasks k134).pc)), (iv ((el w_.tasks k134).inv)), (iv ((el w_.tasks k134).lin)), (iv ((el w_.tasks k134).res)), (iv ((el w_.tasks k134).a.code)), (iv ((el w_.tasks k134).a.rev)), s150.v, s152.v] sz64 rfl rfl rfl rfl rfl rfl hM ?_); intro w158 hM
 refine wl_sq <| wc_region <| wmv rfl rfl <| wv rfl (r_fld u64 rfl rfl sz59 rfl) <| wv rfl (r_ldBS u59 sz59 rfl (us := [(iv ((el w_.tasks k134).c.kind)), (.string ((el w_.tasks k134).c.doc)), (iv ((el w_.tasks k134).c.client)), (iv ((el w_.tasks k134).c.seq)), (iv ((el w_.tasks k134).c.n)), s146.v, s148.v]) rfl hM m0 rfl) <| bs hx fun r163 h164 hx => w_cv hM rfl rfl (fun X S oL hS hR hO => ct_impl_CallText _ X S ((el w_.tasks k134).c) s146 s148 hS (hR _ m5) (hR _ m4) (hR _ m3) (hR _ m2) oL h164) fun _ hM => ?_
 replace hM := hM.p1
 refine xgs hx fun hg169 hx => ?_
 refine w_push (f := fT) r163 rfl rfl u44 sz9 rfl rfl rfl rfl (fun _ => rfl) hM (fun _ => zP (pV _ rfl) zN) rfl hg169 rfl ?_; intro u167 s168 w166 hM
 refine was rfl rfl <| wl_nil <| bk_n <| sq_n <| wc_region <| wv rfl (r_add rfl rfl ⟨by omega, by omega⟩) <| wmv rfl rfl <| wl_nil ?_
 cases hx
 replace hM := hM.t1
 have hM := hM.fewer (rsC m4 (rsC m5 (rsC m6 rsN)))
 replace hM : St ⟨w, X, S⟩ [oC (cSl 1 fT (out130 ++ [r163])) s168.v] [rMax, rTab, rV s_w__6.v (cSl 15 fDTask w_.tasks)] _ := hM
 exact lp_end (m140, k134 + 1, out130 ++ [r163], s168) (Nat.lt_succ_self _) ⟨rfl, rfl, rfl, rfl, trivial⟩ ⟨hM, hx142, hk135⟩
 replace hc139 := of_decide_eq_false hc139
 obtain rfl := eachN_end hx hk135 hc139
 refine wc_exit <| sq_exit <| lp1_exit ?_
 replace hx := hx128
 refine bk_here <| sq_n <| wc_sr <| wmv rfl rfl <| was rfl rfl <| wl_sq <| wc_ret ?_
 obtain rfl := oi hx
 refine fin_ret [s132.v] ⟨rfl, trivial⟩ ?_
 replace hM := hM.t1
 exact ⟨s132, rfl, (hM.fewer rsN).gives⟩

noncomputable def x_spec_CallTexts_b0 (_w_ : DWorld) (_k15 : Nat) (x81 : DTask) (out16 : List ByteArray) : Option (Lr (List ByteArray) (List ByteArray)) :=
  Option.bind (x_spec_CallText (x81.c)) fun r71 => xg (out16.length < 1099511627776) <| some (Lr.go (out16 ++ [r71]))
noncomputable def x_spec_CallTexts_f0 (w_ : DWorld) (k15 : Nat) (s82 : List ByteArray) : Option (Lr (List ByteArray) (List ByteArray)) := x_spec_CallTexts_b0 w_ k15 (el w_.tasks k15) s82
noncomputable def x_spec_CallTexts (w_ : DWorld) : Option (List ByteArray) :=
  Option.bind (eachN (x_spec_CallTexts_f0 w_) (fun (s82 : List ByteArray) => (s82 : List ByteArray)) w_.tasks.length 0 []) fun (y83 : List ByteArray) => some y83
theorem ct_spec_CallTexts (w : World) (X S : Bs) (w_ : DWorld) (s_w__1 : Sv) (s_w__2 : Sv) (s_w__4 : Sv) (s_w__5 : Sv) (s_w__6 : Sv) (hS : SX X S w) (a_w__1 : (cSl 5 fDDoc w_.h.docs).rd S w s_w__1.v) (a_w__2 : (cSl 6 fDSub w_.h.subs).rd S w s_w__2.v) (a_w__4 : (cSl 1 fI w_.locks).rd S w s_w__4.v) (a_w__5 : (cSl 2 fDQueue w_.queues).rd S w s_w__5.v) (a_w__6 : (cSl 15 fDTask w_.tasks).rd S w s_w__6.v) (oL : Sep [] X w) {r : List ByteArray} (hx : x_spec_CallTexts w_ = some r) :
 Ret Tryz.prog 10 [(.agg #[(bv w_.h.shut), s_w__1.v, s_w__2.v, (iv w_.h.last), s_w__4.v, s_w__5.v, s_w__6.v, (iv w_.step)])] w (fun u w' => ∃ y : Sv, u = y.v ∧ Gives X S w [oC (cSl 1 fT r) y.v] [] w') := by
 unfold x_spec_CallTexts at hx
 refine enter Tryz.func10 rfl Tryz.ntmps10 (by kernel_rfl) rfl ?_
 have hM := (((((St.enter oL hS).addV a_w__1).addV a_w__2).addV a_w__4).addV a_w__5).addV a_w__6
 refine wc_sr ?_
 refine w_ex rfl (x_box rfl hM ?_); intro b89 w88 hR90 hM
 refine was rfl rfl <| wl_sq <| wc_sr ?_
 refine w_ex rfl (x_empty (f := fT) u44 sz9 (fun _ => rfl) hM ?_); intro s94 w93 hR95 hM
 refine was rfl rfl <| wl_sq <| wc_seq <| wc_sr <| wv rfl (r_fld u40 rfl rfl sz38 rfl) <| wv rfl (r_ldB u38 rfl rfl hM m1 rfl) <| wv rfl (r_lenC u38 rfl (hM.seeR m0)) <| wmv rfl rfl <| wl_sq <| wc_block <| bs hx fun y102 hx hx103 => ?_
 replace hM := hM.t1
 have hM := hM.fewer (rsC m0 rsN)
 replace hM : St ⟨w, X, S⟩ [oC (cSl 1 fT ([] : List ByteArray)) s94.v] [rV s_w__6.v (cSl 15 fDTask w_.tasks)] _ := hM
 have hl110 := Cs.le (hM.seeR m0)
 refine wc_loop (un fun (m107 : Nat) => un fun (k108 : Nat) => un fun (out104 : List ByteArray) => fun (s106 : Sv) => [(3, s106.v), (8, s_w__6.v), (9, (iv (w_.tasks.length : Int))), (10, (iv (k108 : Int)))]) (un fun (m107 : Nat) => un fun (k108 : Nat) => un fun (out104 : List ByteArray) => fun (s106 : Sv) w' => St ⟨w, X, S⟩ [oC (cSl 1 fT out104) s106.v] [rV s_w__6.v (cSl 15 fDTask w_.tasks)] w' ∧ eachN _ _ m107 k108 out104 = some y102 ∧ k108 + m107 = w_.tasks.length) (fun p => p.1) (w_.tasks.length, 0, [], s94) ⟨rfl, rfl, rfl, rfl, trivial⟩ ⟨hM, hx, Nat.zero_add _⟩ ?_
 rintro ⟨m107, k108, out104, s106⟩ w111 ⟨hM, hx, hk109⟩
 refine wc_sr <| wv rfl (r_lss rfl rfl) <| wl_sq <| wc_seq ?_
 refine wc_cond rfl (fun hc113 => ?_) (fun hc113 => ?_)
 replace hc113 := of_decide_eq_true hc113
 obtain ⟨m114, z115, rfl, hk109, hx, hx116⟩ := eachN_step hx hk109 hc113
 unfold x_spec_CallTexts_f0 x_spec_CallTexts_b0 at hx
 try dsimp only at hx
 refine wc_skip <| sq_n <| wc_seq <| wc_block <| wc_sr ?_
 have hi118 : k108 < w_.tasks.length := by omega
 refine wv rfl (r_ixC u38 sz64 rfl rfl (hM.seeR m0) ⟨by omega, hc113⟩) ?_
 obtain ⟨s120, hM, hc121⟩ := hM.leaf (i := k108) (j := 5) m0 (fun _ => rfl) hi118 rfl
 obtain ⟨s122, hM, hc123⟩ := hM.leaf (i := k108) (j := 6) m1 (fun _ => rfl) hi118 rfl
 obtain ⟨s124, hM, hc125⟩ := hM.leaf (i := k108) (j := 13) m2 (fun _ => rfl) hi118 rfl
 obtain ⟨s126, hM, hc127⟩ := hM.leaf (i := k108) (j := 14) m3 (fun _ => rfl) hi118 rfl
 refine wv rfl (r_ldC (o := k108 * 15) u64 sz64 rfl (us := [(iv ((el w_.tasks k108).c.kind)), (.string ((el w_.tasks k108).c.doc)), (iv ((el w_.tasks k108).c.client)), (iv ((el w_.tasks k108).c.seq)), (iv ((el w_.tasks k108).c.n)), s120.v, s122.v, (iv ((el w_.tasks k108).pc)), (iv ((el w_.tasks k108).inv)), (iv ((el w_.tasks k108).lin)), (iv ((el w_.tasks k108).res)), (iv ((el w_.tasks k108).a.code)), (iv ((el w_.tasks k108).a.rev)), s124.v, s126.v]) rfl (hM.seeR m4) hi118 ⟨(Cs.get (i := k108) (j := 0) (hM.seeR m4) (fun _ => rfl) hi118 rfl), (Cs.get (i := k108) (j := 1) (hM.seeR m4) (fun _ => rfl) hi118 rfl), (Cs.get (i := k108) (j := 2) (hM.seeR m4) (fun _ => rfl) hi118 rfl), (Cs.get (i := k108) (j := 3) (hM.seeR m4) (fun _ => rfl) hi118 rfl), (Cs.get (i := k108) (j := 4) (hM.seeR m4) (fun _ => rfl) hi118 rfl), (hc121 _ (Rel.refl _)), (hc123 _ (Rel.refl _)), (Cs.get (i := k108) (j := 7) (hM.seeR m4) (fun _ => rfl) hi118 rfl), (Cs.get (i := k108) (j := 8) (hM.seeR m4) (fun _ => rfl) hi118 rfl), (Cs.get (i := k108) (j := 9) (hM.seeR m4) (fun _ => rfl) hi118 rfl), (Cs.get (i := k108) (j := 10) (hM.seeR m4) (fun _ => rfl) hi118 rfl), (Cs.get (i := k108) (j := 11) (hM.seeR m4) (fun _ => rfl) hi118 rfl), (Cs.get (i := k108) (j := 12) (hM.seeR m4) (fun _ => rfl) hi118 rfl), (hc125 _ (Rel.refl _)), (hc127 _ (Rel.refl _)), trivial⟩) ?_
 refine w_ex rfl (x_alloc sz64 hM ?_); intro b129 w128 hR130 hM
 refine w_exu (x_stB #[(iv ((el w_.tasks k108).c.kind)), (.string ((el w_.tasks k108).c.doc)), (iv ((el w_.tasks k108).c.client)), (iv ((el w_.tasks k108).c.seq)), (iv ((el w_.tasks k108).c.n)), s120.v, s122.v, (iv ((el w_.tasks k108).pc)), (iv ((el w_.tasks k108).inv)), (iv ((el w_.tasks k108).lin)), (iv ((el w_.tasks k108).res)), (iv ((el w_.tasks k108).a.code)), (iv ((el w_.tasks k108).a.rev)), s124.v, s126.v] sz64 rfl rfl rfl rfl rfl rfl hM ?_); intro w132 hM
 refine wl_sq <| wc_region <| wmv rfl rfl <| wv rfl (r_fld u64 rfl rfl sz59 rfl) <| wv rfl (r_ldBS u59 sz59 rfl (us := [(iv ((el w_.tasks k108).c.kind)), (.string ((el w_.tasks k108).c.doc)), (iv ((el w_.tasks k108).c.client)), (iv ((el w_.tasks k108).c.seq)), (iv ((el w_.tasks k108).c.n)), s120.v, s122.v]) rfl hM m0 rfl) <| bs hx fun r137 h138 hx => w_cv hM rfl rfl (fun X S oL hS hR hO => ct_spec_CallText _ X S ((el w_.tasks k108).c) s120 s122 hS (hR _ m3) (hR _ m2) oL h138) fun _ hM => ?_
 replace hM := hM.p1
 refine xgs hx fun hg143 hx => ?_
 refine w_push (f := fT) r137 rfl rfl u44 sz9 rfl rfl rfl rfl (fun _ => rfl) hM (fun _ => zP (pV _ rfl) zN) rfl hg143 rfl ?_; intro u141 s142 w140 hM
 refine was rfl rfl <| wl_nil <| bk_n <| sq_n <| wc_region <| wv rfl (r_add rfl rfl ⟨by omega, by omega⟩) <| wmv rfl rfl <| wl_nil ?_
 cases hx
 replace hM := hM.t1
 have hM := hM.fewer (rsC m4 rsN)
 replace hM : St ⟨w, X, S⟩ [oC (cSl 1 fT (out104 ++ [r137])) s142.v] [rV s_w__6.v (cSl 15 fDTask w_.tasks)] _ := hM
 exact lp_end (m114, k108 + 1, out104 ++ [r137], s142) (Nat.lt_succ_self _) ⟨rfl, rfl, rfl, rfl, trivial⟩ ⟨hM, hx116, hk109⟩
 replace hc113 := of_decide_eq_false hc113
 obtain rfl := eachN_end hx hk109 hc113
 refine wc_exit <| sq_exit <| lp1_exit ?_
 replace hx := hx103
 refine bk_here <| sq_n <| wc_sr <| wmv rfl rfl <| was rfl rfl <| wl_sq <| wc_ret ?_
 obtain rfl := oi hx
 refine fin_ret [s106.v] ⟨rfl, trivial⟩ ?_
 replace hM := hM.t1
 exact ⟨s106, rfl, (hM.fewer rsN).gives⟩

end Go.Proofs.YtjbonmmmcnpjiaaGreatDoor
