/- Walks of functions of this program (printed by a program of ours, by the rules of the layer). No condition. -/
import Derived.Test.YtjbonmmmcnpjiaaGreatDoorG9
import Derived.Test.YtjbonmmmcnpjiaaGreatDoorNz
namespace Go.Proofs.YtjbonmmmcnpjiaaGreatDoor
open Go.RowKit

noncomputable def x_impl_HubDoc_1 (d : DDoc) (p : ByteArray) : Option (Bool × ByteArray) :=
  some (decide (d.name = p), p)
theorem ct_impl_HubDoc_1 (w : World) (X S : Bs) (d : DDoc) (s_d_2 : Sv) (s_d_3 : Sv) (s_d_4 : Sv) (b_p : Nat) (p : ByteArray) (hS : SX X S w) (a_d_2 : (cSl 1 fI d.text).rd S w s_d_2.v) (a_d_3 : (cSl 3 fDEntry d.list).rd S w s_d_3.v) (a_d_4 : (cSl 3 fDSeen d.seen).rd S w s_d_4.v) (oL : Sep [oBox b_p #[(.string p)] 9] X w) {r : Bool × ByteArray} (hx : x_impl_HubDoc_1 d p = some r) :
 Ret Tryz.prog 153 [(.agg #[(.string d.name), (iv d.from_), s_d_2.v, s_d_3.v, s_d_4.v]), (pt b_p 0)] w (fun u w' => ∃ _ : Unit, u = (bv r.1) ∧ Gives X S w [oBox b_p #[(.string r.2)] 9] [] w') := by
 unfold x_impl_HubDoc_1 at hx
 refine enter Tryz.func153 rfl Tryz.ntmps153 (by kernel_rfl) rfl ?_
 have hM := (((St.enter oL hS).addV a_d_2).addV a_d_3).addV a_d_4
 refine wc_sr ?_
 refine w_ex rfl (x_box rfl hM ?_); intro b13 w12 hR14 hM
 refine was rfl rfl <| wl_sq <| wc_sr <| wv rfl (r_fld u132 rfl rfl sz9 rfl) <| wv rfl (r_ldB u9 rfl rfl hM m0 rfl) <| wv rfl (r_ldB u9 rfl rfl hM m1 rfl) <| wv rfl (r_eqls rfl rfl) <| was rfl rfl <| wl_sq <| wc_ret ?_
 obtain rfl := oi hx
 refine fin_ret [(bv (decide (d.name = p)))] ⟨rfl, trivial⟩ ?_
 replace hM := hM.p1
 replace hM := hM.t1
 exact ⟨(), rfl, (hM.fewer rsN).gives⟩

noncomputable def x_slices_IndexFunc_impl_Doc_impl_Doc_b0 (_s : List DDoc) (k29 : Nat) (x75 : DDoc) (l30 : ByteArray) : Option (Lr ByteArray (Sum ByteArray (Int × ByteArray))) :=
  Option.bind (x_impl_HubDoc_1 x75 l30) fun r68 => bif r68.1 then (some (Lr.out (Sum.inr (((k29 : Int), r68.2))))) else (some (Lr.go r68.2))
noncomputable def x_slices_IndexFunc_impl_Doc_impl_Doc_f0 (s : List DDoc) (k29 : Nat) (s76 : ByteArray) : Option (Lr ByteArray (Sum ByteArray (Int × ByteArray))) := x_slices_IndexFunc_impl_Doc_impl_Doc_b0 s k29 (el s k29) s76
noncomputable def x_slices_IndexFunc_impl_Doc_impl_Doc (s : List DDoc) (c : ByteArray) : Option (Int × ByteArray) :=
  Option.bind (eachN (x_slices_IndexFunc_impl_Doc_impl_Doc_f0 s) (fun (s76 : ByteArray) => (Sum.inl s76 : Sum ByteArray (Int × ByteArray))) s.length 0 c) fun (y77 : Sum ByteArray (Int × ByteArray)) => Sum.elim (fun y78 => some (-1, y78)) (fun y79 => some (y79.1, y79.2)) y77
theorem ct_slices_IndexFunc_impl_Doc_impl_Doc (w : World) (X S : Bs) (s : List DDoc) (s_s : Sv) (b_c : Nat) (c : ByteArray) (hS : SX X S w) (a_s_0 : (cSl 5 fDDoc s).rd S w s_s.v) (oL : Sep [oBox b_c #[(.string c)] 9] X w) {r : Int × ByteArray} (hx : x_slices_IndexFunc_impl_Doc_impl_Doc s c = some r) :
 Ret Tryz.prog 152 [s_s.v, (.func (.func 153) #[] #[(pt b_c 0)])] w (fun u w' => ∃ _ : Unit, u = (iv r.1) ∧ Gives X S w [oBox b_c #[(.string r.2)] 9] [] w') := by
 unfold x_slices_IndexFunc_impl_Doc_impl_Doc at hx
 refine enter Tryz.func152 rfl Tryz.ntmps152 (by kernel_rfl) rfl ?_
 have hM := (St.enter oL hS).addV a_s_0
 refine wc_sr <| was rfl rfl <| wl_sq <| wc_seq <| wc_sr <| wmv rfl rfl <| wv rfl (r_lenC u33 rfl (hM.seeR m0)) <| wmv rfl rfl <| wl_sq <| wc_block <| bs hx fun y85 hx hx86 => ?_
 have hl91 := Cs.le (hM.seeR m0)
 refine wc_loop (un fun (m88 : Nat) => un fun (k89 : Nat) => fun (l87 : ByteArray) => [(0, s_s.v), (1, (.func (.func 153) #[] #[(pt b_c 0)])), (7, (iv (s.length : Int))), (8, (iv (k89 : Int)))]) (un fun (m88 : Nat) => un fun (k89 : Nat) => fun (l87 : ByteArray) w' => St ⟨w, X, S⟩ [oBox b_c #[(.string l87)] 9] [rV s_s.v (cSl 5 fDDoc s)] w' ∧ eachN _ _ m88 k89 l87 = some y85 ∧ k89 + m88 = s.length) (fun p => p.1) (s.length, 0, c) ⟨rfl, rfl, rfl, rfl, trivial⟩ ⟨hM, hx, Nat.zero_add _⟩ ?_
 rintro ⟨m88, k89, l87⟩ w92 ⟨hM, hx, hk90⟩
 refine wc_sr <| wv rfl (r_lss rfl rfl) <| wl_sq <| wc_seq ?_
 refine wc_cond rfl (fun hc94 => ?_) (fun hc94 => ?_)
 replace hc94 := of_decide_eq_true hc94
 obtain ⟨m95, z96, rfl, hk90, hx, hx97⟩ := eachN_step hx hk90 hc94
 unfold x_slices_IndexFunc_impl_Doc_impl_Doc_f0 x_slices_IndexFunc_impl_Doc_impl_Doc_b0 at hx
 try dsimp only at hx
 refine wc_skip <| sq_n <| wc_seq <| wc_block <| wc_sr <| wmv rfl rfl <| was rfl rfl <| wl_sq <| wc_sr <| wmv rfl rfl <| wmv rfl rfl <| wmv rfl rfl ?_
 have hi104 : k89 < s.length := by omega
 refine wv rfl (r_ixC u33 sz132 rfl rfl (hM.seeR m0) ⟨by omega, hc94⟩) ?_
 obtain ⟨s106, hM, hc107⟩ := hM.leaf (i := k89) (j := 2) m0 (fun _ => rfl) hi104 rfl
 obtain ⟨s108, hM, hc109⟩ := hM.leaf (i := k89) (j := 3) m1 (fun _ => rfl) hi104 rfl
 obtain ⟨s110, hM, hc111⟩ := hM.leaf (i := k89) (j := 4) m2 (fun _ => rfl) hi104 rfl
 refine wv rfl (r_ldC (o := k89 * 5) u132 sz132 rfl (us := [(.string ((el s k89).name)), (iv ((el s k89).from_)), s106.v, s108.v, s110.v]) rfl (hM.seeR m3) hi104 ⟨(Cs.get (i := k89) (j := 0) (hM.seeR m3) (fun _ => rfl) hi104 rfl), (Cs.get (i := k89) (j := 1) (hM.seeR m3) (fun _ => rfl) hi104 rfl), (hc107 _ (Rel.refl _)), (hc109 _ (Rel.refl _)), (hc111 _ (Rel.refl _)), trivial⟩) <| bs hx fun r112 h113 hx => w_callv (cap := [(pt b_c 0)]) rfl rfl rfl (hM.callO (l := [oBox b_c #[(.string l87)] 9]) fun X S oL hS hR hO => ct_impl_HubDoc_1 _ X S (el s k89) s106 s108 s110 b_c l87 hS (hR _ m2) (hR _ m1) (hR _ m0) oL h113) ?_
 rintro _ w114 ⟨_, rfl, hM⟩
 dsimp only [List.cons_append, List.nil_append] at hM
 refine wl_sq ?_
 refine wcx hx rfl (fun hx => ?_) (fun hx => ?_)
 refine wc_sr <| wmv rfl rfl <| was rfl rfl <| wl_sq <| wc_ret <| bk_ret <| sq_ret <| lp1_ret ?_
 cases hx
 obtain rfl := oi hx97
 replace hx := hx86
 refine bk_ret <| sq_ret ?_
 obtain rfl := oi hx
 refine fin_ret [(iv (k89 : Int))] ⟨rfl, trivial⟩ ?_
 replace hM := hM.t1
 exact ⟨(), rfl, (hM.fewer rsN).gives⟩
 refine wc_skip <| bk_n <| sq_n <| wc_region <| wv rfl (r_add rfl rfl ⟨by omega, by omega⟩) <| wmv rfl rfl <| wl_nil ?_
 obtain rfl := oi hx
 have hM := hM.fewer (rsC m3 rsN)
 replace hM : St ⟨w, X, S⟩ [oBox b_c #[(.string r112.2)] 9] [rV s_s.v (cSl 5 fDDoc s)] _ := hM
 exact lp_end (m95, k89 + 1, r112.2) (Nat.lt_succ_self _) ⟨rfl, rfl, rfl, rfl, trivial⟩ ⟨hM, hx97, hk90⟩
 replace hc94 := of_decide_eq_false hc94
 obtain rfl := eachN_end hx hk90 hc94
 refine wc_exit <| sq_exit <| lp1_exit ?_
 replace hx := hx86
 refine bk_here <| sq_n <| wc_sr <| was rfl rfl <| wl_sq <| wc_ret ?_
 obtain rfl := oi hx
 refine fin_ret [(iv (-1))] ⟨rfl, trivial⟩ ?_
 replace hM := hM.t1
 exact ⟨(), rfl, (hM.fewer rsN).gives⟩

noncomputable def x_impl_HubDoc (h : DHub) (name : ByteArray) : Option Int :=
  Option.bind (x_slices_IndexFunc_impl_Doc_impl_Doc h.docs name) fun r13 => some r13.1
theorem ct_impl_HubDoc (w : World) (X S : Bs) (h : DHub) (s_h_1 : Sv) (s_h_2 : Sv) (name : ByteArray) (hS : SX X S w) (a_h_1 : (cSl 5 fDDoc h.docs).rd S w s_h_1.v) (a_h_2 : (cSl 6 fDSub h.subs).rd S w s_h_2.v) (oL : Sep [] X w) {r : Int} (hx : x_impl_HubDoc h name = some r) :
 Ret Tryz.prog 108 [(.agg #[(bv h.shut), s_h_1.v, s_h_2.v, (iv h.last)]), (.string name)] w (KV X S w (iv r)) := by
 unfold x_impl_HubDoc at hx
 refine enter Tryz.func108 rfl Tryz.ntmps108 (by kernel_rfl) rfl ?_
 have hM := ((St.enter oL hS).addV a_h_1).addV a_h_2
 refine wc_sr ?_
 refine w_ex rfl (x_box rfl hM ?_); intro b18 w17 hR19 hM
 refine w_ex rfl (x_box rfl hM ?_); intro b22 w21 hR23 hM
 refine was rfl rfl <| wl_sq <| wc_sr <| wv rfl (r_fld u36 rfl rfl sz33 rfl) <| wv rfl (r_ldB u33 rfl rfl hM m1 rfl) <| wv rfl (r_mkfn (caps := [.tmp 3]) (vs := [(pt b22 0)]) rfl) <| bs hx fun r29 h30 hx => w_call rfl rfl (hM.callO (l := [oBox b22 #[(.string name)] 9]) fun X S oL hS hR hO => ct_slices_IndexFunc_impl_Doc_impl_Doc _ X S h.docs s_h_1 b22 name hS (hR _ m1) oL h30) ?_
 rintro _ w31 ⟨_, rfl, hM⟩
 dsimp only [List.cons_append, List.nil_append] at hM
 refine was rfl rfl <| wl_sq <| wc_ret ?_
 obtain rfl := oi hx
 exact fin_u [(iv r29.1)] hM ⟨rfl, trivial⟩ rfl

noncomputable def x_impl_RingOk_b0 (_r_ : DRing) (_k76 : Nat) (x117 : DEntry) : Option (Lr Unit (Sum Unit Unit)) :=
  Option.bind (x_impl_EntryOk x117) fun r110 => bif !r110 then (some (Lr.out (Sum.inr (())))) else (some (Lr.go ()))
noncomputable def x_impl_RingOk_f0 (r_ : DRing) (k76 : Nat) (_s118 : Unit) : Option (Lr Unit (Sum Unit Unit)) := x_impl_RingOk_b0 r_ k76 (el r_.list k76)
noncomputable def x_impl_RingOk (r_ : DRing) : Option Bool :=
  Option.bind (x_impl_within r_.cap 1 6) fun r8 => Option.bind (bif !r8 then (some true) else (Option.bind (x_impl_within r_.next 1 1000000000) fun r23 => some (!r23))) fun c13 => Option.bind (bif c13 then (some true) else (some (decide (r_.cap < (r_.list.length : Int))))) fun c28 => Option.bind (bif c28 then (some true) else (Option.bind (bif r_.out then (some (decide ((0 : Int) < (r_.list.length : Int)))) else (some false)) fun c61 => some c61)) fun c43 => bif c43 then (some false) else (Option.bind (eachN (x_impl_RingOk_f0 r_) (fun (_s118 : Unit) => (Sum.inl () : Sum Unit Unit)) r_.list.length 0 ()) fun (y119 : Sum Unit Unit) => Sum.elim (fun _y120 => some true) (fun _y121 => some false) y119)
theorem ct_impl_RingOk (w : World) (X S : Bs) (r_ : DRing) (s_r__3 : Sv) (hS : SX X S w) (a_r__3 : (cSl 3 fDEntry r_.list).rd S w s_r__3.v) (oL : Sep [] X w) {r : Bool} (hx : x_impl_RingOk r_ = some r) :
 Ret Tryz.prog 109 [(.agg #[(iv r_.cap), (iv r_.next), (bv r_.out), s_r__3.v])] w (KV X S w (bv r)) := by
 unfold x_impl_RingOk at hx
 refine enter Tryz.func109 rfl Tryz.ntmps109 (by kernel_rfl) rfl ?_
 have hM := (St.enter oL hS).addV a_r__3
 refine wc_sr ?_
 refine w_ex rfl (x_box rfl hM ?_); intro b124 w123 hR125 hM
 refine was rfl rfl <| wl_sq <| wc_seq <| wc_sr <| wv rfl (r_fld u135 rfl rfl sz3 rfl) <| wv rfl (r_ldB u3 rfl rfl hM m0 rfl) <| bs hx fun _ h131 hx => w_cv hM rfl rfl (fun X S oL hS hR hO => ct_impl_within _ X S r_.cap (1 : Int) (6 : Int) hS  oL h131) fun _ hM => wv rfl (r_not rfl) <| wmv rfl rfl <| bs hx fun c135 hx hx143 => ?_
 refine wl_midH 5 [(14, (bv c135)), (1, (pt b124 0))] hM ?_ fun w144 hM => ?_
 refine cs2 hx (fun hg136 hx => ?_) (fun hg136 hx => ?_)
 refine gn hg136 rfl rfl <| gn hg136 rfl rfl <| gn hg136 rfl rfl <| gn hg136 rfl rfl <| wv rfl (p_t rfl hg136 rfl) ?_
 obtain rfl := oi hx
 exact mid_h ⟨rfl, rfl, trivial⟩ hM
 refine gv rfl hg136 rfl (r_fld u135 rfl rfl sz3 rfl) <| gv rfl hg136 rfl (r_ldB u3 rfl rfl hM m0 rfl) <| bs hx fun _ h148 hx => g_cv hM hg136 rfl rfl rfl (fun X S oL hS hR hO => ct_impl_within _ X S r_.next (1 : Int) (1000000000 : Int) hS  oL h148) fun _ hM => gv rfl hg136 rfl (r_not rfl) <| wv rfl (p_f rfl hg136 rfl) ?_
 cases hx
 exact mid_h ⟨rfl, rfl, trivial⟩ hM
 replace hx := hx143
 refine wmv rfl rfl <| bs hx fun c152 hx hx160 => ?_
 refine wl_midH 7 [(22, (bv c152)), (1, (pt b124 0))] hM ?_ fun w161 hM => ?_
 refine cs2 hx (fun hg153 hx => ?_) (fun hg153 hx => ?_)
 refine gn hg153 rfl rfl <| gn hg153 rfl rfl <| gn hg153 rfl rfl <| gn hg153 rfl rfl <| gn hg153 rfl rfl <| gn hg153 rfl rfl <| wv rfl (p_t rfl hg153 rfl) ?_
 obtain rfl := oi hx
 exact mid_h ⟨rfl, rfl, trivial⟩ hM
 refine gv rfl hg153 rfl (r_fld u135 rfl rfl sz60 rfl) <| gv rfl hg153 rfl (r_ldB u60 rfl rfl hM m0 rfl) <| gv rfl hg153 rfl (r_lenC u60 rfl (hM.seeR m0)) <| gv rfl hg153 rfl (r_fld u135 rfl rfl sz3 rfl) <| gv rfl hg153 rfl (r_ldB u3 rfl rfl hM m0 rfl) <| gv rfl hg153 rfl (r_gtr rfl rfl) <| wv rfl (p_f rfl hg153 rfl) ?_
 cases hx
 exact mid_h ⟨rfl, rfl, trivial⟩ hM
 replace hx := hx160
 refine wmv rfl rfl <| bs hx fun c169 hx hx184 => ?_
 refine wl_midH 9 [(32, (bv c169)), (1, (pt b124 0))] hM ?_ fun w185 hM => ?_
 refine cs2 hx (fun hg170 hx => ?_) (fun hg170 hx => ?_)
 refine gn hg170 rfl rfl <| gn hg170 rfl rfl <| gn hg170 rfl rfl <| gs rfl rfl rfl <| gs rfl rfl rfl <| gs rfl rfl rfl <| gs rfl rfl rfl <| gn hg170 rfl rfl <| wv rfl (p_t rfl hg170 rfl) ?_
 obtain rfl := oi hx
 exact mid_h ⟨rfl, rfl, trivial⟩ hM
 refine gv rfl hg170 rfl (r_fld u135 rfl rfl sz4 rfl) <| gv rfl hg170 rfl (r_ldB u4 rfl rfl hM m0 rfl) <| gv rfl hg170 rfl (r_move rfl) <| bs hx fun c189 hx hx195 => ?_
 refine wl_midH 5 [(31, (bv c189)), (1, (pt b124 0)), (23, (bv c152))] hM ?_ fun w196 hM => ?_
 refine cs2 hx (fun hg190 hx => ?_) (fun hg190 hx => ?_)
 refine gv rfl hg190 rfl (r_fld u135 rfl rfl sz60 rfl) <| gv rfl hg190 rfl (r_ldB u60 rfl rfl hM m0 rfl) <| gv rfl hg190 rfl (r_lenC u60 rfl (hM.seeR m0)) <| gv rfl hg190 rfl (r_gtr rfl rfl) <| gv rfl hg170 rfl (p_t rfl hg190 rfl) ?_
 cases hx
 exact mid_h ⟨rfl, rfl, rfl, trivial⟩ hM
 refine gn hg190 rfl rfl <| gn hg190 rfl rfl <| gn hg190 rfl rfl <| gn hg190 rfl rfl <| gv rfl hg170 rfl (p_f rfl hg190 rfl) ?_
 obtain rfl := oi hx
 exact mid_h ⟨rfl, rfl, rfl, trivial⟩ hM
 replace hx := hx195
 refine wv rfl (p_f rfl hg170 rfl) ?_
 obtain rfl := oi hx
 exact mid_h ⟨rfl, rfl, trivial⟩ hM
 replace hx := hx184
 refine wl_sq ?_
 refine wcx hx rfl (fun hx => ?_) (fun hx => ?_)
 refine wc_sr <| was rfl rfl <| wl_sq <| wc_ret <| sq_ret ?_
 obtain rfl := oi hx
 exact fin_u [(bv false)] hM ⟨rfl, trivial⟩ rfl
 refine wc_skip <| sq_n <| wc_seq <| wc_sr <| wv rfl (r_fld u135 rfl rfl sz60 rfl) <| wv rfl (r_ldB u60 rfl rfl hM m0 rfl) <| wv rfl (r_lenC u60 rfl (hM.seeR m0)) <| wmv rfl rfl <| wl_sq <| wc_block <| bs hx fun y207 hx hx208 => ?_
 replace hM := hM.t0
 have hl212 := Cs.le (hM.seeR m0)
 refine wc_loop (un fun (m209 : Nat) => fun (k210 : Nat) => [(34, s_r__3.v), (35, (iv (r_.list.length : Int))), (36, (iv (k210 : Int)))]) (un fun (m209 : Nat) => fun (k210 : Nat) w' => St ⟨w, X, S⟩ [] [rV s_r__3.v (cSl 3 fDEntry r_.list)] w' ∧ eachN _ _ m209 k210 () = some y207 ∧ k210 + m209 = r_.list.length) (fun p => p.1) (r_.list.length, 0) ⟨rfl, rfl, rfl, trivial⟩ ⟨hM, hx, Nat.zero_add _⟩ ?_
 rintro ⟨m209, k210⟩ w213 ⟨hM, hx, hk211⟩
 refine wc_sr <| wv rfl (r_lss rfl rfl) <| wl_sq <| wc_seq ?_
 refine wc_cond rfl (fun hc215 => ?_) (fun hc215 => ?_)
 replace hc215 := of_decide_eq_true hc215
 obtain ⟨m216, z217, rfl, hk211, hx, hx218⟩ := eachN_step hx hk211 hc215
 unfold x_impl_RingOk_f0 x_impl_RingOk_b0 at hx
 try dsimp only at hx
 refine wc_skip <| sq_n <| wc_seq <| wc_block <| wc_sr ?_
 have hi220 : k210 < r_.list.length := by omega
 refine wv rfl (r_ixC u60 sz158 rfl rfl (hM.seeR m0) ⟨by omega, hc215⟩) ?_
 obtain ⟨s222, hM, hc223⟩ := hM.leaf (i := k210) (j := 2) m0 (fun _ => rfl) hi220 rfl
 refine wv rfl (r_ldC (o := k210 * 3) u158 sz158 rfl (us := [(iv ((el r_.list k210).client)), (iv ((el r_.list k210).seq)), s222.v]) rfl (hM.seeR m1) hi220 ⟨(Cs.get (i := k210) (j := 0) (hM.seeR m1) (fun _ => rfl) hi220 rfl), (Cs.get (i := k210) (j := 1) (hM.seeR m1) (fun _ => rfl) hi220 rfl), (hc223 _ (Rel.refl _)), trivial⟩) ?_
 refine w_ex rfl (x_alloc sz158 hM ?_); intro b225 w224 hR226 hM
 refine w_exu (x_stB #[(iv ((el r_.list k210).client)), (iv ((el r_.list k210).seq)), s222.v] sz158 rfl rfl rfl rfl rfl rfl hM ?_); intro w228 hM
 refine wl_sq <| wc_sr <| wv rfl (r_ldBS u158 sz158 rfl (us := [(iv ((el r_.list k210).client)), (iv ((el r_.list k210).seq)), s222.v]) rfl hM m0 rfl) <| bs hx fun _ h232 hx => w_cv hM rfl rfl (fun X S oL hS hR hO => ct_impl_EntryOk _ X S (el r_.list k210) s222 hS (hR _ m0) oL h232) fun _ hM => wv rfl (r_not rfl) <| wl_sq ?_
 refine wcx hx rfl (fun hx => ?_) (fun hx => ?_)
 refine wc_sr <| was rfl rfl <| wl_sq <| wc_ret <| bk_ret <| sq_ret <| lp1_ret ?_
 cases hx
 obtain rfl := oi hx218
 replace hx := hx208
 refine bk_ret <| sq_ret ?_
 obtain rfl := oi hx
 exact fin_u [(bv false)] hM ⟨rfl, trivial⟩ rfl
 refine wc_skip <| bk_n <| sq_n <| wc_region <| wv rfl (r_add rfl rfl ⟨by omega, by omega⟩) <| wmv rfl rfl <| wl_nil ?_
 cases hx
 replace hM := hM.t0
 have hM := hM.fewer (rsC m1 rsN)
 replace hM : St ⟨w, X, S⟩ [] [rV s_r__3.v (cSl 3 fDEntry r_.list)] _ := hM
 exact lp_end (m216, k210 + 1) (Nat.lt_succ_self _) ⟨rfl, rfl, rfl, trivial⟩ ⟨hM, hx218, hk211⟩
 replace hc215 := of_decide_eq_false hc215
 obtain rfl := eachN_end hx hk211 hc215
 refine wc_exit <| sq_exit <| lp1_exit ?_
 replace hx := hx208
 refine bk_here <| sq_n <| wc_sr <| was rfl rfl <| wl_sq <| wc_ret ?_
 obtain rfl := oi hx
 exact fin_u [(bv true)] hM ⟨rfl, trivial⟩ rfl

noncomputable def x_impl_HubOk_b0 (h : DHub) (k41 : Nat) (x228 : DDoc) : Option (Lr Unit (Sum Unit Unit)) :=
  Option.bind (x_impl_DocOk x228) fun r154 => Option.bind (bif !r154 then (some true) else (Option.bind (bif decide ((0 : Int) < (k41 : Int)) then (xg (inI ((k41 : Int) - 1)) <| xg (0 ≤ ((k41 : Int) - 1) ∧ ((k41 : Int) - 1) < (h.docs.length : Int)) <| some (!sLt ((el h.docs (((k41 : Int) - 1).toNat)).name) (x228.name))) else (some false)) fun c195 => some c195)) fun c159 => bif c159 then (some (Lr.out (Sum.inr (())))) else (some (Lr.go ()))
noncomputable def x_impl_HubOk_f0 (h : DHub) (k41 : Nat) (_s229 : Unit) : Option (Lr Unit (Sum Unit Unit)) := x_impl_HubOk_b0 h k41 (el h.docs k41)
noncomputable def x_impl_HubOk_b1 (h : DHub) (k237 : Nat) (x612 : DSub) : Option (Lr Unit (Sum Unit Bool)) :=
  Option.bind (x_impl_HubDoc h (x612.doc)) fun r442 => Option.bind (x_impl_within (x612.id) 1 h.last) fun r450 => Option.bind (bif !r450 then (some true) else (Option.bind (bif decide ((0 : Int) < (k237 : Int)) then (xg (inI ((k237 : Int) - 1)) <| xg (0 ≤ ((k237 : Int) - 1) ∧ ((k237 : Int) - 1) < (h.subs.length : Int)) <| some (decide ((x612.id) ≤ ((el h.subs (((k237 : Int) - 1).toNat)).id)))) else (some false)) fun c491 => some c491)) fun c455 => Option.bind (bif c455 then (some true) else (Option.bind (x_impl_RingOk (x612.r)) fun r530 => some (!r530))) fun c520 => Option.bind (bif c520 then (some true) else (some (decide (r442 < 0)))) fun c535 => bif c535 then (some (Lr.out (Sum.inr (false)))) else (Option.bind (bif !(x612.r.out) then (xg (inI ((x612.r.next) + ((x612.r.list).length : Int))) <| xg (0 ≤ r442 ∧ r442 < (h.docs.length : Int)) <| Option.bind (x_impl_HeadRev (el h.docs r442.toNat)) fun r601 => xg (inI (r601 + 1)) <| some (!decide (((x612.r.next) + ((x612.r.list).length : Int)) = (r601 + 1)))) else (some false)) fun c549 => bif c549 then (some (Lr.out (Sum.inr (false)))) else (some (Lr.go ())))
noncomputable def x_impl_HubOk_f1 (h : DHub) (k237 : Nat) (_s613 : Unit) : Option (Lr Unit (Sum Unit Bool)) := x_impl_HubOk_b1 h k237 (el h.subs k237)
noncomputable def x_impl_HubOk (h : DHub) : Option Bool :=
  Option.bind (bif decide ((5 : Int) < (h.docs.length : Int)) then (some true) else (some (decide ((6 : Int) < (h.subs.length : Int))))) fun c11 => Option.bind (bif c11 then (some true) else (Option.bind (x_impl_within h.last 0 1000000000) fun r32 => some (!r32))) fun c22 => bif c22 then (some false) else (Option.bind (eachN (x_impl_HubOk_f0 h) (fun (_s229 : Unit) => (Sum.inl () : Sum Unit Unit)) h.docs.length 0 ()) fun (y230 : Sum Unit Unit) => Sum.elim (fun _y231 => Option.bind (eachN (x_impl_HubOk_f1 h) (fun (_s613 : Unit) => (Sum.inl () : Sum Unit Bool)) h.subs.length 0 ()) fun (y614 : Sum Unit Bool) => Sum.elim (fun _y615 => some true) (fun y616 => some y616) y614) (fun _y232 => some false) y230)
theorem ct_impl_HubOk (w : World) (X S : Bs) (h : DHub) (s_h_1 : Sv) (s_h_2 : Sv) (hS : SX X S w) (a_h_1 : (cSl 5 fDDoc h.docs).rd S w s_h_1.v) (a_h_2 : (cSl 6 fDSub h.subs).rd S w s_h_2.v) (oL : Sep [] X w) {r : Bool} (hx : x_impl_HubOk h = some r) :
 Ret Tryz.prog 58 [(.agg #[(bv h.shut), s_h_1.v, s_h_2.v, (iv h.last)])] w (KV X S w (bv r)) := by
 unfold x_impl_HubOk at hx
 refine enter Tryz.func58 rfl Tryz.ntmps58 (by kernel_rfl) rfl ?_
 have hM := ((St.enter oL hS).addV a_h_1).addV a_h_2
 refine wc_sr ?_
 refine w_ex rfl (x_box rfl hM ?_); intro b619 w618 hR620 hM
 refine was rfl rfl <| wl_sq <| wc_seq <| wc_sr <| wv rfl (r_fld u36 rfl rfl sz33 rfl) <| wv rfl (r_ldB u33 rfl rfl hM m0 rfl) <| wv rfl (r_lenC u33 rfl (hM.seeR m1)) <| wv rfl (r_gtr rfl rfl) <| wmv rfl rfl <| bs hx fun c628 hx hx634 => ?_
 refine wl_midH 5 [(17, (bv c628)), (1, (pt b619 0))] hM ?_ fun w635 hM => ?_
 refine cs2 hx (fun hg629 hx => ?_) (fun hg629 hx => ?_)
 refine gn hg629 rfl rfl <| gn hg629 rfl rfl <| gn hg629 rfl rfl <| gn hg629 rfl rfl <| wv rfl (p_t rfl hg629 rfl) ?_
 obtain rfl := oi hx
 exact mid_h ⟨rfl, rfl, trivial⟩ hM
 refine gv rfl hg629 rfl (r_fld u36 rfl rfl sz34 rfl) <| gv rfl hg629 rfl (r_ldB u34 rfl rfl hM m0 rfl) <| gv rfl hg629 rfl (r_lenC u34 rfl (hM.seeR m0)) <| gv rfl hg629 rfl (r_gtr rfl rfl) <| wv rfl (p_f rfl hg629 rfl) ?_
 cases hx
 exact mid_h ⟨rfl, rfl, trivial⟩ hM
 replace hx := hx634
 refine wmv rfl rfl <| bs hx fun c641 hx hx649 => ?_
 refine wl_midH 5 [(23, (bv c641)), (1, (pt b619 0))] hM ?_ fun w650 hM => ?_
 refine cs2 hx (fun hg642 hx => ?_) (fun hg642 hx => ?_)
 refine gn hg642 rfl rfl <| gn hg642 rfl rfl <| gn hg642 rfl rfl <| gn hg642 rfl rfl <| wv rfl (p_t rfl hg642 rfl) ?_
 obtain rfl := oi hx
 exact mid_h ⟨rfl, rfl, trivial⟩ hM
 refine gv rfl hg642 rfl (r_fld u36 rfl rfl sz3 rfl) <| gv rfl hg642 rfl (r_ldB u3 rfl rfl hM m0 rfl) <| bs hx fun _ h654 hx => g_cv hM hg642 rfl rfl rfl (fun X S oL hS hR hO => ct_impl_within _ X S h.last (0 : Int) (1000000000 : Int) hS  oL h654) fun _ hM => gv rfl hg642 rfl (r_not rfl) <| wv rfl (p_f rfl hg642 rfl) ?_
 cases hx
 exact mid_h ⟨rfl, rfl, trivial⟩ hM
 replace hx := hx649
 refine wl_sq ?_
 refine wcx hx rfl (fun hx => ?_) (fun hx => ?_)
 refine wc_sr <| was rfl rfl <| wl_sq <| wc_ret <| sq_ret ?_
 obtain rfl := oi hx
 exact fin_u [(bv false)] hM ⟨rfl, trivial⟩ rfl
 refine wc_skip <| sq_n <| wc_seq <| wc_sr <| wv rfl (r_fld u36 rfl rfl sz33 rfl) <| wv rfl (r_ldB u33 rfl rfl hM m0 rfl) <| wv rfl (r_lenC u33 rfl (hM.seeR m1)) <| wmv rfl rfl <| wl_sq <| wc_block <| bs hx fun y663 hx hx664 => ?_
 have hM := hM.fewer (rsC m1 (rsC m0 rsN))
 replace hM : St ⟨w, X, S⟩ [oBox b619 #[(bv h.shut), s_h_1.v, s_h_2.v, (iv h.last)] 36] [rV s_h_1.v (cSl 5 fDDoc h.docs), rV s_h_2.v (cSl 6 fDSub h.subs)] _ := hM
 have hl668 := Cs.le (hM.seeR m0)
 refine wc_loop (un fun (m665 : Nat) => fun (k666 : Nat) => [(1, (pt b619 0)), (25, s_h_1.v), (26, (iv (h.docs.length : Int))), (27, (iv (k666 : Int)))]) (un fun (m665 : Nat) => fun (k666 : Nat) w' => St ⟨w, X, S⟩ [oBox b619 #[(bv h.shut), s_h_1.v, s_h_2.v, (iv h.last)] 36] [rV s_h_1.v (cSl 5 fDDoc h.docs), rV s_h_2.v (cSl 6 fDSub h.subs)] w' ∧ eachN _ _ m665 k666 () = some y663 ∧ k666 + m665 = h.docs.length) (fun p => p.1) (h.docs.length, 0) ⟨rfl, rfl, rfl, rfl, trivial⟩ ⟨hM, hx, Nat.zero_add _⟩ ?_
 rintro ⟨m665, k666⟩ w669 ⟨hM, hx, hk667⟩
 refine wc_sr <| wv rfl (r_lss rfl rfl) <| wl_sq <| wc_seq ?_
 refine wc_cond rfl (fun hc671 => ?_) (fun hc671 => ?_)
 replace hc671 := of_decide_eq_true hc671
 obtain ⟨m672, z673, rfl, hk667, hx, hx674⟩ := eachN_step hx hk667 hc671
 unfold x_impl_HubOk_f0 x_impl_HubOk_b0 at hx
 try dsimp only at hx
 refine wc_skip <| sq_n <| wc_seq <| wc_block <| wc_sr <| wmv rfl rfl ?_
 have hi677 : k666 < h.docs.length := by omega
 refine wv rfl (r_ixC u33 sz132 rfl rfl (hM.seeR m0) ⟨by omega, hc671⟩) ?_
 obtain ⟨s679, hM, hc680⟩ := hM.leaf (i := k666) (j := 2) m0 (fun _ => rfl) hi677 rfl
 obtain ⟨s681, hM, hc682⟩ := hM.leaf (i := k666) (j := 3) m1 (fun _ => rfl) hi677 rfl
 obtain ⟨s683, hM, hc684⟩ := hM.leaf (i := k666) (j := 4) m2 (fun _ => rfl) hi677 rfl
 refine wv rfl (r_ldC (o := k666 * 5) u132 sz132 rfl (us := [(.string ((el h.docs k666).name)), (iv ((el h.docs k666).from_)), s679.v, s681.v, s683.v]) rfl (hM.seeR m3) hi677 ⟨(Cs.get (i := k666) (j := 0) (hM.seeR m3) (fun _ => rfl) hi677 rfl), (Cs.get (i := k666) (j := 1) (hM.seeR m3) (fun _ => rfl) hi677 rfl), (hc680 _ (Rel.refl _)), (hc682 _ (Rel.refl _)), (hc684 _ (Rel.refl _)), trivial⟩) ?_
 refine w_ex rfl (x_alloc sz132 hM ?_); intro b686 w685 hR687 hM
 refine was rfl rfl ?_
 refine w_exu (x_stB #[(.string ((el h.docs k666).name)), (iv ((el h.docs k666).from_)), s679.v, s681.v, s683.v] sz132 rfl rfl rfl rfl rfl rfl hM ?_); intro w690 hM
 refine wl_sq <| wc_seq <| wc_draw [(0, 0), (1, 0), (2, 0), (3, 0), (4, 0), (5, 0), (6, 0), (7, 0), (8, 0), (9, 0), (10, 0), (11, 0), (12, 0), (13, 0), (14, 0), (15, 0), (16, 0), (17, 0), (18, 0)] Tryz_mixed (by kernel_rfl) rfl (by kernel_rfl) rfl <| ov rfl (fun w' h' => r_ldBS u132 sz132 rfl (us := [(.string ((el h.docs k666).name)), (iv ((el h.docs k666).from_)), s679.v, s681.v, s683.v]) rfl (hM.call h') m0 rfl) <| bs hx fun r693 h694 hx => oc rfl rfl (fun w' h' => (hM.call h').callV fun X S oL hS hR hO => ct_impl_DocOk _ X S (el h.docs k666) s679 s681 s683 hS (hR _ m2) (hR _ m1) (hR _ m0) oL h694) <| ov rfl (fun w' h' => r_not rfl) <| omv rfl rfl <| bs hx fun c698 hx hx731 => ?_
 refine wo_mid 15 [(50, (bv c698)), (1, (pt b619 0)), (25, s_h_1.v), (26, (iv (h.docs.length : Int))), (27, (iv (k666 : Int)))] rfl ?_ ?_
 refine cs2 hx (fun hg699 hx => ?_) (fun hg699 hx => ?_)
 refine ogs rfl (isB_no hg699) rfl <| ogs rfl (isB_no hg699) rfl <| ogs rfl (isB_no hg699) rfl <| ogs rfl rfl rfl <| ogs rfl rfl rfl <| ogs rfl rfl rfl <| ogs rfl rfl rfl <| ogs rfl rfl rfl <| ogs rfl rfl rfl <| ogs rfl rfl rfl <| ogs rfl rfl rfl <| ogs rfl rfl rfl <| ogs rfl rfl rfl <| ogs rfl (isB_no hg699) rfl ?_
 refine ov rfl (fun w' h' => p_t rfl hg699 rfl) ?_
 obtain rfl := oi hx
 exact mid_onil ⟨rfl, rfl, rfl, rfl, rfl, trivial⟩
 refine ogv rfl hg699 rfl (fun w' h' => r_move rfl) <| ogv rfl hg699 rfl (fun w' h' => r_gtr rfl rfl) <| ogv rfl hg699 rfl (fun w' h' => r_move rfl) <| bs hx fun c735 hx hx750 => ?_
 refine wo_mid 11 [(49, (bv c735)), (1, (pt b619 0)), (25, s_h_1.v), (26, (iv (h.docs.length : Int))), (27, (iv (k666 : Int))), (35, (bv (!r693))), (36, (iv (k666 : Int))), (37, (bv (decide ((0 : Int) < (k666 : Int))))), (38, (bv (decide ((0 : Int) < (k666 : Int)))))] rfl ?_ ?_
 refine cs2 hx (fun hg736 hx => ?_) (fun hg736 hx => ?_)
 refine ogv rfl hg736 rfl (fun w' h' => r_fld u36 rfl rfl sz33 rfl) <| ogv rfl hg736 rfl (fun w' h' => r_ldB u33 rfl rfl (hM.call h') m1 rfl) <| ogv rfl hg736 rfl (fun w' h' => r_move rfl) <| xgs hx fun hg755 hx => ogv rfl hg736 rfl (fun w' h' => r_sub rfl rfl hg755) <| xgs hx fun hg758 hx => ?_
 have hi757 : (((k666 : Int) - 1).toNat) < h.docs.length := by omega
 refine ogv rfl hg736 rfl (fun w' h' => r_ixC u33 sz132 rfl rfl ((hM.call h').seeR m3) hg758) <| ogv rfl hg736 rfl (fun w' h' => r_fldC (i := (((k666 : Int) - 1).toNat)) u132 rfl rfl sz9 rfl ((hM.call h').seeR m3) hi757) <| ogv rfl hg736 rfl (fun w' h' => r_ld u9 rfl rfl (Cs.get (i := (((k666 : Int) - 1).toNat)) (j := 0) ((hM.call h').seeR m3) (fun _ => rfl) hi757 rfl)) <| ogv rfl hg736 rfl (fun w' h' => r_fld u132 rfl rfl sz9 rfl) <| ogv rfl hg736 rfl (fun w' h' => r_ldB u9 rfl rfl (hM.call h') m0 rfl) <| ogv rfl hg736 rfl (fun w' h' => r_geqs rfl rfl) <| ogv rfl hg699 rfl (fun w' h' => p_t rfl hg736 rfl) ?_
 cases hx
 exact mid_onil ⟨rfl, rfl, rfl, rfl, rfl, rfl, rfl, rfl, rfl, trivial⟩
 refine ogs rfl (isB_no hg736) rfl <| ogs rfl (isB_no hg736) rfl <| ogs rfl (isB_no hg736) rfl <| ogs rfl (isB_no hg736) rfl <| ogs rfl (isB_no hg736) rfl <| ogs rfl (isB_no hg736) rfl <| ogs rfl (isB_no hg736) rfl <| ogs rfl (isB_no hg736) rfl <| ogs rfl (isB_no hg736) rfl <| ogs rfl (isB_no hg736) rfl <| ogv rfl hg699 rfl (fun w' h' => p_f rfl hg736 rfl) ?_
 obtain rfl := oi hx
 exact mid_onil ⟨rfl, rfl, rfl, rfl, rfl, rfl, rfl, rfl, rfl, trivial⟩
 replace hx := hx750
 refine ov rfl (fun w' h' => p_f rfl hg699 rfl) ?_
 obtain rfl := oi hx
 exact mid_onil ⟨rfl, rfl, rfl, rfl, rfl, trivial⟩
 replace hx := hx731
 refine o_nilM hM fun _ hM => sq_n ?_
 refine wcx hx rfl (fun hx => ?_) (fun hx => ?_)
 refine wc_sr <| was rfl rfl <| wl_sq <| wc_ret <| bk_ret <| sq_ret <| lp1_ret ?_
 cases hx
 obtain rfl := oi hx674
 replace hx := hx664
 refine bk_ret <| sq_ret ?_
 obtain rfl := oi hx
 exact fin_u [(bv false)] hM ⟨rfl, trivial⟩ rfl
 refine wc_skip <| bk_n <| sq_n <| wc_region <| wv rfl (r_add rfl rfl ⟨by omega, by omega⟩) <| wmv rfl rfl <| wl_nil ?_
 cases hx
 replace hM := hM.p1
 replace hM := hM.t1
 have hM := hM.fewer (rsC m3 (rsC m4 rsN))
 replace hM : St ⟨w, X, S⟩ [oBox b619 #[(bv h.shut), s_h_1.v, s_h_2.v, (iv h.last)] 36] [rV s_h_1.v (cSl 5 fDDoc h.docs), rV s_h_2.v (cSl 6 fDSub h.subs)] _ := hM
 exact lp_end (m672, k666 + 1) (Nat.lt_succ_self _) ⟨rfl, rfl, rfl, rfl, trivial⟩ ⟨hM, hx674, hk667⟩
 replace hc671 := of_decide_eq_false hc671
 obtain rfl := eachN_end hx hk667 hc671
 refine wc_exit <| sq_exit <| lp1_exit ?_
 replace hx := hx664
 refine bk_here <| sq_n <| wc_seq <| wc_sr <| wv rfl (r_fld u36 rfl rfl sz34 rfl) <| wv rfl (r_ldB u34 rfl rfl hM m0 rfl) <| wv rfl (r_lenC u34 rfl (hM.seeR m1)) <| wmv rfl rfl <| wl_sq <| wc_block <| bs hx fun y774 hx hx775 => ?_
 have hl779 := Cs.le (hM.seeR m1)
 refine wc_loop (un fun (m776 : Nat) => fun (k777 : Nat) => [(1, (pt b619 0)), (53, s_h_2.v), (54, (iv (h.subs.length : Int))), (55, (iv (k777 : Int)))]) (un fun (m776 : Nat) => fun (k777 : Nat) w' => St ⟨w, X, S⟩ [oBox b619 #[(bv h.shut), s_h_1.v, s_h_2.v, (iv h.last)] 36] [rV s_h_1.v (cSl 5 fDDoc h.docs), rV s_h_2.v (cSl 6 fDSub h.subs)] w' ∧ eachN _ _ m776 k777 () = some y774 ∧ k777 + m776 = h.subs.length) (fun p => p.1) (h.subs.length, 0) ⟨rfl, rfl, rfl, rfl, trivial⟩ ⟨hM, hx, Nat.zero_add _⟩ ?_
 rintro ⟨m776, k777⟩ w780 ⟨hM, hx, hk778⟩
 refine wc_sr <| wv rfl (r_lss rfl rfl) <| wl_sq <| wc_seq ?_
 refine wc_cond rfl (fun hc782 => ?_) (fun hc782 => ?_)
 replace hc782 := of_decide_eq_true hc782
 obtain ⟨m783, z784, rfl, hk778, hx, hx785⟩ := eachN_step hx hk778 hc782
 unfold x_impl_HubOk_f1 x_impl_HubOk_b1 at hx
 try dsimp only at hx
 refine wc_skip <| sq_n <| wc_seq <| wc_block <| wc_sr <| wmv rfl rfl ?_
 have hi788 : k777 < h.subs.length := by omega
 refine wv rfl (r_ixC u34 sz137 rfl rfl (hM.seeR m1) ⟨by omega, hc782⟩) ?_
 obtain ⟨s790, hM, hc791⟩ := hM.leaf (i := k777) (j := 5) m1 (fun _ => rfl) hi788 rfl
 refine wv rfl (r_ldC (o := k777 * 6) u137 sz137 rfl (us := [(iv ((el h.subs k777).id)), (.string ((el h.subs k777).doc)), (iv ((el h.subs k777).r.cap)), (iv ((el h.subs k777).r.next)), (bv ((el h.subs k777).r.out)), s790.v]) rfl (hM.seeR m2) hi788 ⟨(Cs.get (i := k777) (j := 0) (hM.seeR m2) (fun _ => rfl) hi788 rfl), (Cs.get (i := k777) (j := 1) (hM.seeR m2) (fun _ => rfl) hi788 rfl), (Cs.get (i := k777) (j := 2) (hM.seeR m2) (fun _ => rfl) hi788 rfl), (Cs.get (i := k777) (j := 3) (hM.seeR m2) (fun _ => rfl) hi788 rfl), (Cs.get (i := k777) (j := 4) (hM.seeR m2) (fun _ => rfl) hi788 rfl), (hc791 _ (Rel.refl _)), trivial⟩) ?_
 refine w_ex rfl (x_alloc sz137 hM ?_); intro b793 w792 hR794 hM
 refine was rfl rfl ?_
 refine w_exu (x_stB #[(iv ((el h.subs k777).id)), (.string ((el h.subs k777).doc)), (iv ((el h.subs k777).r.cap)), (iv ((el h.subs k777).r.next)), (bv ((el h.subs k777).r.out)), s790.v] sz137 rfl rfl rfl rfl rfl rfl hM ?_); intro w797 hM
 refine wl_sq <| wc_sr <| wv rfl (r_ldBS u36 sz36 rfl (us := [(bv h.shut), s_h_1.v, s_h_2.v, (iv h.last)]) rfl hM m1 rfl) <| wv rfl (r_fld u137 rfl rfl sz9 rfl) <| wv rfl (r_ldB u9 rfl rfl hM m0 rfl) <| bs hx fun r802 h803 hx => w_cv hM rfl rfl (fun X S oL hS hR hO => ct_impl_HubDoc _ X S h s_h_1 s_h_2 ((el h.subs k777).doc) hS (hR _ m1) (hR _ m2) oL h803) fun _ hM => was rfl rfl <| wl_sq <| wc_seq <| wc_seq <| wc_draw [(0, 0), (1, 0), (2, 0), (3, 0), (4, 0), (5, 0), (6, 0), (7, 0), (8, 0), (9, 0), (10, 0), (11, 0), (12, 0), (13, 0), (14, 0), (15, 0), (16, 0), (17, 0), (18, 0), (19, 0), (20, 0), (21, 0), (22, 0), (23, 0), (24, 0), (25, 0), (26, 0), (27, 0), (28, 0), (29, 0), (30, 0), (31, 0)] Tryz_mixed (by kernel_rfl) rfl (by kernel_rfl) rfl <| ov rfl (fun w' h' => r_fld u137 rfl rfl sz3 rfl) <| ov rfl (fun w' h' => r_ldB u3 rfl rfl (hM.call h') m0 rfl) ?_
 refine ov rfl (fun w' h' => r_fld u36 rfl rfl sz3 rfl) <| ov rfl (fun w' h' => r_ldB u3 rfl rfl (hM.call h') m1 rfl) <| bs hx fun r810 h811 hx => oc rfl rfl (fun w' h' => (hM.call h').callV fun X S oL hS hR hO => ct_impl_within _ X S ((el h.subs k777).id) (1 : Int) h.last hS  oL h811) <| ov rfl (fun w' h' => r_not rfl) <| omv rfl rfl <| bs hx fun c815 hx hx848 => ?_
 refine wo_mid 15 [(85, (bv c815)), (1, (pt b619 0)), (6, (pt b793 0)), (7, (iv r802)), (53, s_h_2.v), (54, (iv (h.subs.length : Int))), (55, (iv (k777 : Int)))] rfl ?_ ?_
 refine cs2 hx (fun hg816 hx => ?_) (fun hg816 hx => ?_)
 refine ogs rfl (isB_no hg816) rfl <| ogs rfl (isB_no hg816) rfl <| ogs rfl (isB_no hg816) rfl <| ogs rfl rfl rfl <| ogs rfl rfl rfl <| ogs rfl rfl rfl <| ogs rfl rfl rfl <| ogs rfl rfl rfl <| ogs rfl rfl rfl <| ogs rfl rfl rfl <| ogs rfl rfl rfl <| ogs rfl rfl rfl <| ogs rfl rfl rfl <| ogs rfl (isB_no hg816) rfl ?_
 refine ov rfl (fun w' h' => p_t rfl hg816 rfl) ?_
 obtain rfl := oi hx
 exact mid_onil ⟨rfl, rfl, rfl, rfl, rfl, rfl, rfl, trivial⟩
 refine ogv rfl hg816 rfl (fun w' h' => r_move rfl) <| ogv rfl hg816 rfl (fun w' h' => r_gtr rfl rfl) <| ogv rfl hg816 rfl (fun w' h' => r_move rfl) <| bs hx fun c852 hx hx867 => ?_
 refine wo_mid 11 [(84, (bv c852)), (1, (pt b619 0)), (6, (pt b793 0)), (7, (iv r802)), (53, s_h_2.v), (54, (iv (h.subs.length : Int))), (55, (iv (k777 : Int))), (70, (bv (!r810))), (71, (iv (k777 : Int))), (72, (bv (decide ((0 : Int) < (k777 : Int))))), (73, (bv (decide ((0 : Int) < (k777 : Int)))))] rfl ?_ ?_
 refine cs2 hx (fun hg853 hx => ?_) (fun hg853 hx => ?_)
 refine ogv rfl hg853 rfl (fun w' h' => r_fld u36 rfl rfl sz34 rfl) <| ogv rfl hg853 rfl (fun w' h' => r_ldB u34 rfl rfl (hM.call h') m1 rfl) <| ogv rfl hg853 rfl (fun w' h' => r_move rfl) <| xgs hx fun hg872 hx => ogv rfl hg853 rfl (fun w' h' => r_sub rfl rfl hg872) <| xgs hx fun hg875 hx => ?_
 have hi874 : (((k777 : Int) - 1).toNat) < h.subs.length := by omega
 refine ogv rfl hg853 rfl (fun w' h' => r_ixC u34 sz137 rfl rfl ((hM.call h').seeR m2) hg875) <| ogv rfl hg853 rfl (fun w' h' => r_fldC (i := (((k777 : Int) - 1).toNat)) u137 rfl rfl sz3 rfl ((hM.call h').seeR m2) hi874) <| ogv rfl hg853 rfl (fun w' h' => r_ld u3 rfl rfl (Cs.get (i := (((k777 : Int) - 1).toNat)) (j := 0) ((hM.call h').seeR m2) (fun _ => rfl) hi874 rfl)) <| ogv rfl hg853 rfl (fun w' h' => r_fld u137 rfl rfl sz3 rfl) <| ogv rfl hg853 rfl (fun w' h' => r_ldB u3 rfl rfl (hM.call h') m0 rfl) <| ogv rfl hg853 rfl (fun w' h' => r_geq rfl rfl) <| ogv rfl hg816 rfl (fun w' h' => p_t rfl hg853 rfl) ?_
 cases hx
 exact mid_onil ⟨rfl, rfl, rfl, rfl, rfl, rfl, rfl, rfl, rfl, rfl, rfl, trivial⟩
 refine ogs rfl (isB_no hg853) rfl <| ogs rfl (isB_no hg853) rfl <| ogs rfl (isB_no hg853) rfl <| ogs rfl (isB_no hg853) rfl <| ogs rfl (isB_no hg853) rfl <| ogs rfl (isB_no hg853) rfl <| ogs rfl (isB_no hg853) rfl <| ogs rfl (isB_no hg853) rfl <| ogs rfl (isB_no hg853) rfl <| ogs rfl (isB_no hg853) rfl <| ogv rfl hg816 rfl (fun w' h' => p_f rfl hg853 rfl) ?_
 obtain rfl := oi hx
 exact mid_onil ⟨rfl, rfl, rfl, rfl, rfl, rfl, rfl, rfl, rfl, rfl, rfl, trivial⟩
 replace hx := hx867
 refine ov rfl (fun w' h' => p_f rfl hg816 rfl) ?_
 obtain rfl := oi hx
 exact mid_onil ⟨rfl, rfl, rfl, rfl, rfl, rfl, rfl, trivial⟩
 replace hx := hx848
 refine omv rfl rfl <| bs hx fun c882 hx hx890 => ?_
 refine wo_mid 5 [(91, (bv c882)), (1, (pt b619 0)), (6, (pt b793 0)), (7, (iv r802)), (53, s_h_2.v), (54, (iv (h.subs.length : Int))), (55, (iv (k777 : Int)))] rfl ?_ ?_
 refine cs2 hx (fun hg883 hx => ?_) (fun hg883 hx => ?_)
 refine ogs rfl (isB_no hg883) rfl <| ogs rfl (isB_no hg883) rfl <| ogs rfl (isB_no hg883) rfl <| ogs rfl (isB_no hg883) rfl <| ov rfl (fun w' h' => p_t rfl hg883 rfl) ?_
 obtain rfl := oi hx
 exact mid_onil ⟨rfl, rfl, rfl, rfl, rfl, rfl, rfl, trivial⟩
 refine ogv rfl hg883 rfl (fun w' h' => r_fld u137 rfl rfl sz135 rfl) <| ogv rfl hg883 rfl (fun w' h' => r_ldBS u135 sz135 rfl (us := [(iv ((el h.subs k777).r.cap)), (iv ((el h.subs k777).r.next)), (bv ((el h.subs k777).r.out)), s790.v]) rfl (hM.call h') m0 rfl) <| bs hx fun _ h894 hx => ogc rfl hg883 rfl rfl (fun w' h' => (hM.call h').callV fun X S oL hS hR hO => ct_impl_RingOk _ X S ((el h.subs k777).r) s790 hS (hR _ m0) oL h894) <| ogv rfl hg883 rfl (fun w' h' => r_not rfl) <| ov rfl (fun w' h' => p_f rfl hg883 rfl) ?_
 cases hx
 exact mid_onil ⟨rfl, rfl, rfl, rfl, rfl, rfl, rfl, trivial⟩
 replace hx := hx890
 refine omv rfl rfl <| bs hx fun c898 hx hx902 => ?_
 refine wo_mid 3 [(95, (bv c898)), (1, (pt b619 0)), (6, (pt b793 0)), (7, (iv r802)), (53, s_h_2.v), (54, (iv (h.subs.length : Int))), (55, (iv (k777 : Int)))] rfl ?_ ?_
 refine cs2 hx (fun hg899 hx => ?_) (fun hg899 hx => ?_)
 refine ogs rfl (isB_no hg899) rfl <| ogs rfl (isB_no hg899) rfl <| ov rfl (fun w' h' => p_t rfl hg899 rfl) ?_
 obtain rfl := oi hx
 exact mid_onil ⟨rfl, rfl, rfl, rfl, rfl, rfl, rfl, trivial⟩
 refine ogv rfl hg899 rfl (fun w' h' => r_move rfl) <| ogv rfl hg899 rfl (fun w' h' => r_lss rfl rfl) <| ov rfl (fun w' h' => p_f rfl hg899 rfl) ?_
 cases hx
 exact mid_onil ⟨rfl, rfl, rfl, rfl, rfl, rfl, rfl, trivial⟩
 replace hx := hx902
 refine o_nilM hM fun _ hM => sq_n ?_
 refine wcx hx rfl (fun hx => ?_) (fun hx => ?_)
 refine wc_sr <| was rfl rfl <| wl_sq <| wc_ret <| sq_ret <| bk_ret <| sq_ret <| lp1_ret ?_
 cases hx
 obtain rfl := oi hx785
 replace hx := hx775
 refine bk_ret <| sq_ret ?_
 obtain rfl := oi hx
 exact fin_u [(bv false)] hM ⟨rfl, trivial⟩ rfl
 refine wc_skip <| sq_n <| wc_seq <| wc_draw [(0, 0), (1, 0), (2, 0), (3, 0), (4, 0), (5, 0), (6, 0), (7, 0), (8, 0), (9, 0), (10, 0), (11, 0), (12, 0), (13, 0), (14, 0), (15, 0), (16, 0), (17, 0), (18, 0), (19, 0), (20, 0), (21, 0)] Tryz_mixed (by kernel_rfl) rfl (by kernel_rfl) rfl <| ov rfl (fun w' h' => r_fld u137 rfl rfl sz135 rfl) <| ov rfl (fun w' h' => r_fld u135 rfl rfl sz4 rfl) <| ov rfl (fun w' h' => r_ldB u4 rfl rfl (hM.call h') m0 rfl) <| ov rfl (fun w' h' => r_not rfl) <| omv rfl rfl <| bs hx fun c914 hx hx944 => ?_
 refine wo_mid 17 [(117, (bv c914)), (1, (pt b619 0)), (53, s_h_2.v), (54, (iv (h.subs.length : Int))), (55, (iv (k777 : Int)))] rfl ?_ ?_
 refine cs2 hx (fun hg915 hx => ?_) (fun hg915 hx => ?_)
 refine ogv rfl hg915 rfl (fun w' h' => r_fld u137 rfl rfl sz135 rfl) <| ogv rfl hg915 rfl (fun w' h' => r_fld u135 rfl rfl sz3 rfl) <| ogv rfl hg915 rfl (fun w' h' => r_ldB u3 rfl rfl (hM.call h') m0 rfl) <| ogv rfl hg915 rfl (fun w' h' => r_fld u137 rfl rfl sz135 rfl) <| ogv rfl hg915 rfl (fun w' h' => r_fld u135 rfl rfl sz60 rfl) <| ogv rfl hg915 rfl (fun w' h' => r_ldB u60 rfl rfl (hM.call h') m0 rfl) <| ogv rfl hg915 rfl (fun w' h' => r_lenC u60 rfl ((hM.call h').seeR m0)) <| xgs hx fun hg953 hx => ogv rfl hg915 rfl (fun w' h' => r_add rfl rfl hg953) <| ogv rfl hg915 rfl (fun w' h' => r_fld u36 rfl rfl sz33 rfl) <| ogv rfl hg915 rfl (fun w' h' => r_ldB u33 rfl rfl (hM.call h') m1 rfl) <| ogv rfl hg915 rfl (fun w' h' => r_move rfl) <| xgs hx fun hg959 hx => ?_
 have hi958 : r802.toNat < h.docs.length := by omega
 refine ogv rfl hg915 rfl (fun w' h' => r_ixC u33 sz132 rfl rfl ((hM.call h').seeR m1) hg959) ?_
 obtain ⟨s961, hM, hc962⟩ := hM.leaf (i := r802.toNat) (j := 2) m1 (fun _ => rfl) hi958 rfl
 obtain ⟨s963, hM, hc964⟩ := hM.leaf (i := r802.toNat) (j := 3) m2 (fun _ => rfl) hi958 rfl
 obtain ⟨s965, hM, hc966⟩ := hM.leaf (i := r802.toNat) (j := 4) m3 (fun _ => rfl) hi958 rfl
 refine ogv rfl hg915 rfl (fun w' h' => r_ldC (o := r802.toNat * 5) u132 sz132 rfl (us := [(.string ((el h.docs r802.toNat).name)), (iv ((el h.docs r802.toNat).from_)), s961.v, s963.v, s965.v]) rfl ((hM.call h').seeR m4) hi958 ⟨(Cs.get (i := r802.toNat) (j := 0) ((hM.call h').seeR m4) (fun _ => rfl) hi958 rfl), (Cs.get (i := r802.toNat) (j := 1) ((hM.call h').seeR m4) (fun _ => rfl) hi958 rfl), (hc962 w' h'), (hc964 w' h'), (hc966 w' h'), trivial⟩) <| bs hx fun _ h968 hx => ogc rfl hg915 rfl rfl (fun w' h' => (hM.call h').callV fun X S oL hS hR hO => ct_impl_HeadRev _ X S (el h.docs r802.toNat) s961 s963 s965 hS (hR _ m2) (hR _ m1) (hR _ m0) oL h968) <| xgs hx fun hg971 hx => ogv rfl hg915 rfl (fun w' h' => r_add rfl rfl hg971) <| ogv rfl hg915 rfl (fun w' h' => r_neq rfl rfl) <| ov rfl (fun w' h' => p_t rfl hg915 rfl) ?_
 cases hx
 exact mid_onil ⟨rfl, rfl, rfl, rfl, rfl, trivial⟩
 refine ogs rfl (isB_no hg915) rfl <| ogs rfl (isB_no hg915) rfl <| ogs rfl (isB_no hg915) rfl <| ogs rfl (isB_no hg915) rfl <| ogs rfl (isB_no hg915) rfl <| ogs rfl (isB_no hg915) rfl <| ogs rfl (isB_no hg915) rfl <| ogs rfl (isB_no hg915) rfl <| ogs rfl (isB_no hg915) rfl <| ogs rfl (isB_no hg915) rfl <| ogs rfl (isB_no hg915) rfl <| ogs rfl (isB_no hg915) rfl <| ogs rfl (isB_no hg915) rfl <| ogs rfl (isB_no hg915) rfl ?_
 refine ogs rfl (isB_no hg915) rfl <| ogs rfl (isB_no hg915) rfl <| ov rfl (fun w' h' => p_f rfl hg915 rfl) ?_
 obtain rfl := oi hx
 exact mid_onil ⟨rfl, rfl, rfl, rfl, rfl, trivial⟩
 replace hx := hx944
 refine o_nilM hM fun _ hM => sq_n ?_
 refine wcx hx rfl (fun hx => ?_) (fun hx => ?_)
 refine wc_sr <| was rfl rfl <| wl_sq <| wc_ret <| bk_ret <| sq_ret <| lp1_ret ?_
 cases hx
 obtain rfl := oi hx785
 replace hx := hx775
 refine bk_ret <| sq_ret ?_
 obtain rfl := oi hx
 exact fin_u [(bv false)] hM ⟨rfl, trivial⟩ rfl
 refine wc_skip <| bk_n <| sq_n <| wc_region <| wv rfl (r_add rfl rfl ⟨by omega, by omega⟩) <| wmv rfl rfl <| wl_nil ?_
 cases hx
 replace hM := hM.p1
 replace hM := hM.t1
 have hM := hM.fewer (rsC m1 (rsC m2 rsN))
 replace hM : St ⟨w, X, S⟩ [oBox b619 #[(bv h.shut), s_h_1.v, s_h_2.v, (iv h.last)] 36] [rV s_h_1.v (cSl 5 fDDoc h.docs), rV s_h_2.v (cSl 6 fDSub h.subs)] _ := hM
 exact lp_end (m783, k777 + 1) (Nat.lt_succ_self _) ⟨rfl, rfl, rfl, rfl, trivial⟩ ⟨hM, hx785, hk778⟩
 replace hc782 := of_decide_eq_false hc782
 obtain rfl := eachN_end hx hk778 hc782
 refine wc_exit <| sq_exit <| lp1_exit ?_
 replace hx := hx775
 refine bk_here <| sq_n <| wc_sr <| was rfl rfl <| wl_sq <| wc_ret ?_
 obtain rfl := oi hx
 exact fin_u [(bv true)] hM ⟨rfl, trivial⟩ rfl

noncomputable def x_spec_HubDoc_b0 (name : ByteArray) (_h : DHub) (k10 : Nat) (x63 : DDoc) : Option (Lr Unit (Sum Unit Int)) :=
  bif decide (x63.name = name) then (some (Lr.out (Sum.inr ((k10 : Int))))) else (some (Lr.go ()))
noncomputable def x_spec_HubDoc_f0 (name : ByteArray) (h : DHub) (k10 : Nat) (_s64 : Unit) : Option (Lr Unit (Sum Unit Int)) := x_spec_HubDoc_b0 name h k10 (el h.docs k10)
noncomputable def x_spec_HubDoc (h : DHub) (name : ByteArray) : Option Int :=
  Option.bind (eachN (x_spec_HubDoc_f0 name h) (fun (_s64 : Unit) => (Sum.inl () : Sum Unit Int)) h.docs.length 0 ()) fun (y65 : Sum Unit Int) => Sum.elim (fun _y66 => some (-1)) (fun y67 => some y67) y65
theorem ct_spec_HubDoc (w : World) (X S : Bs) (h : DHub) (s_h_1 : Sv) (s_h_2 : Sv) (name : ByteArray) (hS : SX X S w) (a_h_1 : (cSl 5 fDDoc h.docs).rd S w s_h_1.v) (a_h_2 : (cSl 6 fDSub h.subs).rd S w s_h_2.v) (oL : Sep [] X w) {r : Int} (hx : x_spec_HubDoc h name = some r) :
 Ret Tryz.prog 97 [(.agg #[(bv h.shut), s_h_1.v, s_h_2.v, (iv h.last)]), (.string name)] w (KV X S w (iv r)) := by
 unfold x_spec_HubDoc at hx
 refine enter Tryz.func97 rfl Tryz.ntmps97 (by kernel_rfl) rfl ?_
 have hM := ((St.enter oL hS).addV a_h_1).addV a_h_2
 refine wc_sr ?_
 refine w_ex rfl (x_box rfl hM ?_); intro b70 w69 hR71 hM
 refine was rfl rfl <| wl_sq <| wc_seq <| wc_sr <| wv rfl (r_fld u36 rfl rfl sz33 rfl) <| wv rfl (r_ldB u33 rfl rfl hM m0 rfl) <| wv rfl (r_lenC u33 rfl (hM.seeR m1)) <| wmv rfl rfl <| wl_sq <| wc_block <| bs hx fun y78 hx hx79 => ?_
 replace hM := hM.t0
 have hM := hM.fewer (rsC m1 rsN)
 replace hM : St ⟨w, X, S⟩ [] [rV s_h_1.v (cSl 5 fDDoc h.docs)] _ := hM
 have hl83 := Cs.le (hM.seeR m0)
 refine wc_loop (un fun (m80 : Nat) => fun (k81 : Nat) => [(1, (.string name)), (8, s_h_1.v), (9, (iv (h.docs.length : Int))), (10, (iv (k81 : Int)))]) (un fun (m80 : Nat) => fun (k81 : Nat) w' => St ⟨w, X, S⟩ [] [rV s_h_1.v (cSl 5 fDDoc h.docs)] w' ∧ eachN _ _ m80 k81 () = some y78 ∧ k81 + m80 = h.docs.length) (fun p => p.1) (h.docs.length, 0) ⟨rfl, rfl, rfl, rfl, trivial⟩ ⟨hM, hx, Nat.zero_add _⟩ ?_
 rintro ⟨m80, k81⟩ w84 ⟨hM, hx, hk82⟩
 refine wc_sr <| wv rfl (r_lss rfl rfl) <| wl_sq <| wc_seq ?_
 refine wc_cond rfl (fun hc86 => ?_) (fun hc86 => ?_)
 replace hc86 := of_decide_eq_true hc86
 obtain ⟨m87, z88, rfl, hk82, hx, hx89⟩ := eachN_step hx hk82 hc86
 unfold x_spec_HubDoc_f0 x_spec_HubDoc_b0 at hx
 try dsimp only at hx
 refine wc_skip <| sq_n <| wc_seq <| wc_block <| wc_sr <| wmv rfl rfl ?_
 have hi92 : k81 < h.docs.length := by omega
 refine wv rfl (r_ixC u33 sz132 rfl rfl (hM.seeR m0) ⟨by omega, hc86⟩) ?_
 obtain ⟨s94, hM, hc95⟩ := hM.leaf (i := k81) (j := 2) m0 (fun _ => rfl) hi92 rfl
 obtain ⟨s96, hM, hc97⟩ := hM.leaf (i := k81) (j := 3) m1 (fun _ => rfl) hi92 rfl
 obtain ⟨s98, hM, hc99⟩ := hM.leaf (i := k81) (j := 4) m2 (fun _ => rfl) hi92 rfl
 refine wv rfl (r_ldC (o := k81 * 5) u132 sz132 rfl (us := [(.string ((el h.docs k81).name)), (iv ((el h.docs k81).from_)), s94.v, s96.v, s98.v]) rfl (hM.seeR m3) hi92 ⟨(Cs.get (i := k81) (j := 0) (hM.seeR m3) (fun _ => rfl) hi92 rfl), (Cs.get (i := k81) (j := 1) (hM.seeR m3) (fun _ => rfl) hi92 rfl), (hc95 _ (Rel.refl _)), (hc97 _ (Rel.refl _)), (hc99 _ (Rel.refl _)), trivial⟩) ?_
 refine w_ex rfl (x_alloc sz132 hM ?_); intro b101 w100 hR102 hM
 refine was rfl rfl ?_
 refine w_exu (x_stB #[(.string ((el h.docs k81).name)), (iv ((el h.docs k81).from_)), s94.v, s96.v, s98.v] sz132 rfl rfl rfl rfl rfl rfl hM ?_); intro w105 hM
 refine wl_sq <| wc_sr <| wv rfl (r_fld u132 rfl rfl sz9 rfl) <| wv rfl (r_ldB u9 rfl rfl hM m0 rfl) <| wmv rfl rfl <| wv rfl (r_eqls rfl rfl) <| wl_sq ?_
 refine wcx hx rfl (fun hx => ?_) (fun hx => ?_)
 refine wc_sr <| wmv rfl rfl <| was rfl rfl <| wl_sq <| wc_ret <| bk_ret <| sq_ret <| lp1_ret ?_
 cases hx
 obtain rfl := oi hx89
 replace hx := hx79
 refine bk_ret <| sq_ret ?_
 obtain rfl := oi hx
 exact fin_u [(iv (k81 : Int))] hM ⟨rfl, trivial⟩ rfl
 refine wc_skip <| bk_n <| sq_n <| wc_region <| wv rfl (r_add rfl rfl ⟨by omega, by omega⟩) <| wmv rfl rfl <| wl_nil ?_
 cases hx
 replace hM := hM.t0
 have hM := hM.fewer (rsC m3 rsN)
 replace hM : St ⟨w, X, S⟩ [] [rV s_h_1.v (cSl 5 fDDoc h.docs)] _ := hM
 exact lp_end (m87, k81 + 1) (Nat.lt_succ_self _) ⟨rfl, rfl, rfl, rfl, trivial⟩ ⟨hM, hx89, hk82⟩
 replace hc86 := of_decide_eq_false hc86
 obtain rfl := eachN_end hx hk82 hc86
 refine wc_exit <| sq_exit <| lp1_exit ?_
 replace hx := hx79
 refine bk_here <| sq_n <| wc_sr <| was rfl rfl <| wl_sq <| wc_ret ?_
 obtain rfl := oi hx
 exact fin_u [(iv (-1))] hM ⟨rfl, trivial⟩ rfl

noncomputable def x_spec_RingOk_b0 (_r_ : DRing) (_k10 : Nat) (x51 : DEntry) : Option (Lr Unit (Sum Unit Unit)) :=
  Option.bind (x_spec_EntryOk x51) fun r44 => bif !r44 then (some (Lr.out (Sum.inr (())))) else (some (Lr.go ()))
noncomputable def x_spec_RingOk_f0 (r_ : DRing) (k10 : Nat) (_s52 : Unit) : Option (Lr Unit (Sum Unit Unit)) := x_spec_RingOk_b0 r_ k10 (el r_.list k10)
noncomputable def x_spec_RingOk (r_ : DRing) : Option Bool :=
  Option.bind (eachN (x_spec_RingOk_f0 r_) (fun (_s52 : Unit) => (Sum.inl () : Sum Unit Unit)) r_.list.length 0 ()) fun (y53 : Sum Unit Unit) => Sum.elim (fun _y54 => Option.bind (x_spec_l01In r_.cap 1 6) fun r58 => Option.bind (bif r58 then (Option.bind (x_spec_l01In r_.next 1 1000000000) fun r71 => some r71) else (some false)) fun c62 => Option.bind (bif c62 then (some (decide ((r_.list.length : Int) ≤ r_.cap))) else (some false)) fun c75 => Option.bind (bif c75 then (Option.bind (bif !r_.out then (some true) else (some (decide ((r_.list.length : Int) = 0)))) fun c110 => some c110) else (some false)) fun c90 => some c90) (fun _y55 => some false) y53
theorem ct_spec_RingOk (w : World) (X S : Bs) (r_ : DRing) (s_r__3 : Sv) (hS : SX X S w) (a_r__3 : (cSl 3 fDEntry r_.list).rd S w s_r__3.v) (oL : Sep [] X w) {r : Bool} (hx : x_spec_RingOk r_ = some r) :
 Ret Tryz.prog 98 [(.agg #[(iv r_.cap), (iv r_.next), (bv r_.out), s_r__3.v])] w (KV X S w (bv r)) := by
 unfold x_spec_RingOk at hx
 refine enter Tryz.func98 rfl Tryz.ntmps98 (by kernel_rfl) rfl ?_
 have hM := (St.enter oL hS).addV a_r__3
 refine wc_sr ?_
 refine w_ex rfl (x_box rfl hM ?_); intro b122 w121 hR123 hM
 refine was rfl rfl <| wl_sq <| wc_seq <| wc_sr <| wv rfl (r_fld u135 rfl rfl sz60 rfl) <| wv rfl (r_ldB u60 rfl rfl hM m0 rfl) <| wv rfl (r_lenC u60 rfl (hM.seeR m0)) <| wmv rfl rfl <| wl_sq <| wc_block <| bs hx fun y130 hx hx131 => ?_
 have hl135 := Cs.le (hM.seeR m0)
 refine wc_loop (un fun (m132 : Nat) => fun (k133 : Nat) => [(1, (pt b122 0)), (6, s_r__3.v), (7, (iv (r_.list.length : Int))), (8, (iv (k133 : Int)))]) (un fun (m132 : Nat) => fun (k133 : Nat) w' => St ⟨w, X, S⟩ [oBox b122 #[(iv r_.cap), (iv r_.next), (bv r_.out), s_r__3.v] 135] [rV s_r__3.v (cSl 3 fDEntry r_.list)] w' ∧ eachN _ _ m132 k133 () = some y130 ∧ k133 + m132 = r_.list.length) (fun p => p.1) (r_.list.length, 0) ⟨rfl, rfl, rfl, rfl, trivial⟩ ⟨hM, hx, Nat.zero_add _⟩ ?_
 rintro ⟨m132, k133⟩ w136 ⟨hM, hx, hk134⟩
 refine wc_sr <| wv rfl (r_lss rfl rfl) <| wl_sq <| wc_seq ?_
 refine wc_cond rfl (fun hc138 => ?_) (fun hc138 => ?_)
 replace hc138 := of_decide_eq_true hc138
 obtain ⟨m139, z140, rfl, hk134, hx, hx141⟩ := eachN_step hx hk134 hc138
 unfold x_spec_RingOk_f0 x_spec_RingOk_b0 at hx
 try dsimp only at hx
 refine wc_skip <| sq_n <| wc_seq <| wc_block <| wc_sr ?_
 have hi143 : k133 < r_.list.length := by omega
 refine wv rfl (r_ixC u60 sz158 rfl rfl (hM.seeR m0) ⟨by omega, hc138⟩) ?_
 obtain ⟨s145, hM, hc146⟩ := hM.leaf (i := k133) (j := 2) m0 (fun _ => rfl) hi143 rfl
 refine wv rfl (r_ldC (o := k133 * 3) u158 sz158 rfl (us := [(iv ((el r_.list k133).client)), (iv ((el r_.list k133).seq)), s145.v]) rfl (hM.seeR m1) hi143 ⟨(Cs.get (i := k133) (j := 0) (hM.seeR m1) (fun _ => rfl) hi143 rfl), (Cs.get (i := k133) (j := 1) (hM.seeR m1) (fun _ => rfl) hi143 rfl), (hc146 _ (Rel.refl _)), trivial⟩) ?_
 refine w_ex rfl (x_alloc sz158 hM ?_); intro b148 w147 hR149 hM
 refine w_exu (x_stB #[(iv ((el r_.list k133).client)), (iv ((el r_.list k133).seq)), s145.v] sz158 rfl rfl rfl rfl rfl rfl hM ?_); intro w151 hM
 refine wl_sq <| wc_sr <| wv rfl (r_ldBS u158 sz158 rfl (us := [(iv ((el r_.list k133).client)), (iv ((el r_.list k133).seq)), s145.v]) rfl hM m0 rfl) <| bs hx fun _ h155 hx => w_cv hM rfl rfl (fun X S oL hS hR hO => ct_spec_EntryOk _ X S (el r_.list k133) s145 hS (hR _ m0) oL h155) fun _ hM => wv rfl (r_not rfl) <| wl_sq ?_
 refine wcx hx rfl (fun hx => ?_) (fun hx => ?_)
 refine wc_sr <| was rfl rfl <| wl_sq <| wc_ret <| bk_ret <| sq_ret <| lp1_ret ?_
 cases hx
 obtain rfl := oi hx141
 replace hx := hx131
 refine bk_ret <| sq_ret ?_
 obtain rfl := oi hx
 exact fin_u [(bv false)] hM ⟨rfl, trivial⟩ rfl
 refine wc_skip <| bk_n <| sq_n <| wc_region <| wv rfl (r_add rfl rfl ⟨by omega, by omega⟩) <| wmv rfl rfl <| wl_nil ?_
 cases hx
 replace hM := hM.p1
 replace hM := hM.t1
 have hM := hM.fewer (rsC m1 rsN)
 replace hM : St ⟨w, X, S⟩ [oBox b122 #[(iv r_.cap), (iv r_.next), (bv r_.out), s_r__3.v] 135] [rV s_r__3.v (cSl 3 fDEntry r_.list)] _ := hM
 exact lp_end (m139, k133 + 1) (Nat.lt_succ_self _) ⟨rfl, rfl, rfl, rfl, trivial⟩ ⟨hM, hx141, hk134⟩
 replace hc138 := of_decide_eq_false hc138
 obtain rfl := eachN_end hx hk134 hc138
 refine wc_exit <| sq_exit <| lp1_exit ?_
 replace hx := hx131
 refine bk_here <| sq_n <| wc_sr <| wv rfl (r_fld u135 rfl rfl sz3 rfl) <| wv rfl (r_ldB u3 rfl rfl hM m0 rfl) <| bs hx fun _ h165 hx => w_cv hM rfl rfl (fun X S oL hS hR hO => ct_spec_l01In _ X S r_.cap (1 : Int) (6 : Int) hS  oL h165) fun _ hM => wmv rfl rfl <| bs hx fun c168 hx hx175 => ?_
 refine wl_midH 4 [(23, (bv c168)), (1, (pt b122 0))] hM ?_ fun w176 hM => ?_
 refine cs2 hx (fun hg169 hx => ?_) (fun hg169 hx => ?_)
 refine gv rfl hg169 rfl (r_fld u135 rfl rfl sz3 rfl) <| gv rfl hg169 rfl (r_ldB u3 rfl rfl hM m0 rfl) <| bs hx fun _ h180 hx => g_cv hM hg169 rfl rfl rfl (fun X S oL hS hR hO => ct_spec_l01In _ X S r_.next (1 : Int) (1000000000 : Int) hS  oL h180) fun _ hM => wv rfl (p_t rfl hg169 rfl) ?_
 obtain rfl := oi hx
 exact mid_h ⟨rfl, rfl, trivial⟩ hM
 refine gn hg169 rfl rfl <| gn hg169 rfl rfl <| gn hg169 rfl rfl <| wv rfl (p_f rfl hg169 rfl) ?_
 obtain rfl := oi hx
 exact mid_h ⟨rfl, rfl, trivial⟩ hM
 replace hx := hx175
 refine wmv rfl rfl <| bs hx fun c183 hx hx191 => ?_
 refine wl_midH 7 [(31, (bv c183)), (1, (pt b122 0))] hM ?_ fun w192 hM => ?_
 refine cs2 hx (fun hg184 hx => ?_) (fun hg184 hx => ?_)
 refine gv rfl hg184 rfl (r_fld u135 rfl rfl sz60 rfl) <| gv rfl hg184 rfl (r_ldB u60 rfl rfl hM m0 rfl) <| gv rfl hg184 rfl (r_lenC u60 rfl (hM.seeR m0)) <| gv rfl hg184 rfl (r_fld u135 rfl rfl sz3 rfl) <| gv rfl hg184 rfl (r_ldB u3 rfl rfl hM m0 rfl) <| gv rfl hg184 rfl (r_leq rfl rfl) <| wv rfl (p_t rfl hg184 rfl) ?_
 cases hx
 exact mid_h ⟨rfl, rfl, trivial⟩ hM
 refine gn hg184 rfl rfl <| gn hg184 rfl rfl <| gn hg184 rfl rfl <| gn hg184 rfl rfl <| gn hg184 rfl rfl <| gn hg184 rfl rfl <| wv rfl (p_f rfl hg184 rfl) ?_
 obtain rfl := oi hx
 exact mid_h ⟨rfl, rfl, trivial⟩ hM
 replace hx := hx191
 refine wmv rfl rfl <| bs hx fun c200 hx hx216 => ?_
 refine wl_midH 10 [(42, (bv c200))] hM ?_ fun w217 hM => ?_
 refine cs2 hx (fun hg201 hx => ?_) (fun hg201 hx => ?_)
 refine gv rfl hg201 rfl (r_fld u135 rfl rfl sz4 rfl) <| gv rfl hg201 rfl (r_ldB u4 rfl rfl hM m0 rfl) <| gv rfl hg201 rfl (r_not rfl) <| gv rfl hg201 rfl (r_move rfl) <| bs hx fun c222 hx hx228 => ?_
 refine wl_midH 5 [(41, (bv c222)), (32, (bv c183))] hM ?_ fun w229 hM => ?_
 refine cs2 hx (fun hg223 hx => ?_) (fun hg223 hx => ?_)
 refine gn hg223 rfl rfl <| gn hg223 rfl rfl <| gn hg223 rfl rfl <| gn hg223 rfl rfl <| gv rfl hg201 rfl (p_t rfl hg223 rfl) ?_
 obtain rfl := oi hx
 exact mid_h ⟨rfl, rfl, trivial⟩ hM
 refine gv rfl hg223 rfl (r_fld u135 rfl rfl sz60 rfl) <| gv rfl hg223 rfl (r_ldB u60 rfl rfl hM m0 rfl) <| gv rfl hg223 rfl (r_lenC u60 rfl (hM.seeR m0)) <| gv rfl hg223 rfl (r_eql rfl rfl) <| gv rfl hg201 rfl (p_f rfl hg223 rfl) ?_
 cases hx
 exact mid_h ⟨rfl, rfl, trivial⟩ hM
 replace hx := hx228
 refine wv rfl (p_t rfl hg201 rfl) ?_
 obtain rfl := oi hx
 exact mid_h ⟨rfl, trivial⟩ hM
 refine gn hg201 rfl rfl <| gn hg201 rfl rfl <| gn hg201 rfl rfl <| gn hg201 rfl rfl <| gs rfl rfl rfl <| gs rfl rfl rfl <| gs rfl rfl rfl <| gs rfl rfl rfl <| gn hg201 rfl rfl <| wv rfl (p_f rfl hg201 rfl) ?_
 obtain rfl := oi hx
 exact mid_h ⟨rfl, trivial⟩ hM
 replace hx := hx216
 refine was rfl rfl <| wl_sq <| wc_ret ?_
 obtain rfl := oi hx
 exact fin_u [(bv c200)] hM ⟨rfl, trivial⟩ rfl

noncomputable def x_spec_HubOk_b0 (h : DHub) (k41 : Nat) (x228 : DDoc) : Option (Lr Unit (Sum Unit Unit)) :=
  Option.bind (x_spec_DocOk x228) fun r154 => Option.bind (bif !r154 then (some true) else (Option.bind (bif decide ((0 : Int) < (k41 : Int)) then (xg (inI ((k41 : Int) - 1)) <| xg (0 ≤ ((k41 : Int) - 1) ∧ ((k41 : Int) - 1) < (h.docs.length : Int)) <| some (!sLt ((el h.docs (((k41 : Int) - 1).toNat)).name) (x228.name))) else (some false)) fun c195 => some c195)) fun c159 => bif c159 then (some (Lr.out (Sum.inr (())))) else (some (Lr.go ()))
noncomputable def x_spec_HubOk_f0 (h : DHub) (k41 : Nat) (_s229 : Unit) : Option (Lr Unit (Sum Unit Unit)) := x_spec_HubOk_b0 h k41 (el h.docs k41)
noncomputable def x_spec_HubOk_b1 (h : DHub) (k237 : Nat) (x612 : DSub) : Option (Lr Unit (Sum Unit Bool)) :=
  Option.bind (x_spec_HubDoc h (x612.doc)) fun r442 => Option.bind (x_spec_l01In (x612.id) 1 h.last) fun r450 => Option.bind (bif !r450 then (some true) else (Option.bind (x_spec_RingOk (x612.r)) fun r465 => some (!r465))) fun c455 => Option.bind (bif c455 then (some true) else (some (decide (r442 < 0)))) fun c470 => Option.bind (bif c470 then (some true) else (Option.bind (bif decide ((0 : Int) < (k237 : Int)) then (xg (inI ((k237 : Int) - 1)) <| xg (0 ≤ ((k237 : Int) - 1) ∧ ((k237 : Int) - 1) < (h.subs.length : Int)) <| some (decide ((x612.id) ≤ ((el h.subs (((k237 : Int) - 1).toNat)).id)))) else (some false)) fun c513 => some c513)) fun c477 => bif c477 then (some (Lr.out (Sum.inr (false)))) else (Option.bind (bif !(x612.r.out) then (xg (inI ((x612.r.next) + ((x612.r.list).length : Int))) <| xg (0 ≤ r442 ∧ r442 < (h.docs.length : Int)) <| Option.bind (x_spec_HeadRev (el h.docs r442.toNat)) fun r601 => xg (inI (r601 + 1)) <| some (!decide (((x612.r.next) + ((x612.r.list).length : Int)) = (r601 + 1)))) else (some false)) fun c549 => bif c549 then (some (Lr.out (Sum.inr (false)))) else (some (Lr.go ())))
noncomputable def x_spec_HubOk_f1 (h : DHub) (k237 : Nat) (_s613 : Unit) : Option (Lr Unit (Sum Unit Bool)) := x_spec_HubOk_b1 h k237 (el h.subs k237)
noncomputable def x_spec_HubOk (h : DHub) : Option Bool :=
  Option.bind (bif decide ((5 : Int) < (h.docs.length : Int)) then (some true) else (some (decide ((6 : Int) < (h.subs.length : Int))))) fun c11 => Option.bind (bif c11 then (some true) else (Option.bind (x_spec_l01In h.last 0 1000000000) fun r32 => some (!r32))) fun c22 => bif c22 then (some false) else (Option.bind (eachN (x_spec_HubOk_f0 h) (fun (_s229 : Unit) => (Sum.inl () : Sum Unit Unit)) h.docs.length 0 ()) fun (y230 : Sum Unit Unit) => Sum.elim (fun _y231 => Option.bind (eachN (x_spec_HubOk_f1 h) (fun (_s613 : Unit) => (Sum.inl () : Sum Unit Bool)) h.subs.length 0 ()) fun (y614 : Sum Unit Bool) => Sum.elim (fun _y615 => some true) (fun y616 => some y616) y614) (fun _y232 => some false) y230)
theorem ct_spec_HubOk (w : World) (X S : Bs) (h : DHub) (s_h_1 : Sv) (s_h_2 : Sv) (hS : SX X S w) (a_h_1 : (cSl 5 fDDoc h.docs).rd S w s_h_1.v) (a_h_2 : (cSl 6 fDSub h.subs).rd S w s_h_2.v) (oL : Sep [] X w) {r : Bool} (hx : x_spec_HubOk h = some r) :
 Ret Tryz.prog 46 [(.agg #[(bv h.shut), s_h_1.v, s_h_2.v, (iv h.last)])] w (KV X S w (bv r)) := by
 unfold x_spec_HubOk at hx
 refine enter Tryz.func46 rfl Tryz.ntmps46 (by kernel_rfl) rfl ?_
 have hM := ((St.enter oL hS).addV a_h_1).addV a_h_2
 refine wc_sr ?_
 refine w_ex rfl (x_box rfl hM ?_); intro b619 w618 hR620 hM
 refine was rfl rfl <| wl_sq <| wc_seq <| wc_sr <| wv rfl (r_fld u36 rfl rfl sz33 rfl) <| wv rfl (r_ldB u33 rfl rfl hM m0 rfl) <| wv rfl (r_lenC u33 rfl (hM.seeR m1)) <| wv rfl (r_gtr rfl rfl) <| wmv rfl rfl <| bs hx fun c628 hx hx634 => ?_
 refine wl_midH 5 [(17, (bv c628)), (1, (pt b619 0))] hM ?_ fun w635 hM => ?_
 refine cs2 hx (fun hg629 hx => ?_) (fun hg629 hx => ?_)
 refine gn hg629 rfl rfl <| gn hg629 rfl rfl <| gn hg629 rfl rfl <| gn hg629 rfl rfl <| wv rfl (p_t rfl hg629 rfl) ?_
 obtain rfl := oi hx
 exact mid_h ⟨rfl, rfl, trivial⟩ hM
 refine gv rfl hg629 rfl (r_fld u36 rfl rfl sz34 rfl) <| gv rfl hg629 rfl (r_ldB u34 rfl rfl hM m0 rfl) <| gv rfl hg629 rfl (r_lenC u34 rfl (hM.seeR m0)) <| gv rfl hg629 rfl (r_gtr rfl rfl) <| wv rfl (p_f rfl hg629 rfl) ?_
 cases hx
 exact mid_h ⟨rfl, rfl, trivial⟩ hM
 replace hx := hx634
 refine wmv rfl rfl <| bs hx fun c641 hx hx649 => ?_
 refine wl_midH 5 [(23, (bv c641)), (1, (pt b619 0))] hM ?_ fun w650 hM => ?_
 refine cs2 hx (fun hg642 hx => ?_) (fun hg642 hx => ?_)
 refine gn hg642 rfl rfl <| gn hg642 rfl rfl <| gn hg642 rfl rfl <| gn hg642 rfl rfl <| wv rfl (p_t rfl hg642 rfl) ?_
 obtain rfl := oi hx
 exact mid_h ⟨rfl, rfl, trivial⟩ hM
 refine gv rfl hg642 rfl (r_fld u36 rfl rfl sz3 rfl) <| gv rfl hg642 rfl (r_ldB u3 rfl rfl hM m0 rfl) <| bs hx fun _ h654 hx => g_cv hM hg642 rfl rfl rfl (fun X S oL hS hR hO => ct_spec_l01In _ X S h.last (0 : Int) (1000000000 : Int) hS  oL h654) fun _ hM => gv rfl hg642 rfl (r_not rfl) <| wv rfl (p_f rfl hg642 rfl) ?_
 cases hx
 exact mid_h ⟨rfl, rfl, trivial⟩ hM
 replace hx := hx649
 refine wl_sq ?_
 refine wcx hx rfl (fun hx => ?_) (fun hx => ?_)
 refine wc_sr <| was rfl rfl <| wl_sq <| wc_ret <| sq_ret ?_
 obtain rfl := oi hx
 exact fin_u [(bv false)] hM ⟨rfl, trivial⟩ rfl
 refine wc_skip <| sq_n <| wc_seq <| wc_sr <| wv rfl (r_fld u36 rfl rfl sz33 rfl) <| wv rfl (r_ldB u33 rfl rfl hM m0 rfl) <| wv rfl (r_lenC u33 rfl (hM.seeR m1)) <| wmv rfl rfl <| wl_sq <| wc_block <| bs hx fun y663 hx hx664 => ?_
 have hM := hM.fewer (rsC m1 (rsC m0 rsN))
 replace hM : St ⟨w, X, S⟩ [oBox b619 #[(bv h.shut), s_h_1.v, s_h_2.v, (iv h.last)] 36] [rV s_h_1.v (cSl 5 fDDoc h.docs), rV s_h_2.v (cSl 6 fDSub h.subs)] _ := hM
 have hl668 := Cs.le (hM.seeR m0)
 refine wc_loop (un fun (m665 : Nat) => fun (k666 : Nat) => [(1, (pt b619 0)), (25, s_h_1.v), (26, (iv (h.docs.length : Int))), (27, (iv (k666 : Int)))]) (un fun (m665 : Nat) => fun (k666 : Nat) w' => St ⟨w, X, S⟩ [oBox b619 #[(bv h.shut), s_h_1.v, s_h_2.v, (iv h.last)] 36] [rV s_h_1.v (cSl 5 fDDoc h.docs), rV s_h_2.v (cSl 6 fDSub h.subs)] w' ∧ eachN _ _ m665 k666 () = some y663 ∧ k666 + m665 = h.docs.length) (fun p => p.1) (h.docs.length, 0) ⟨rfl, rfl, rfl, rfl, trivial⟩ ⟨hM, hx, Nat.zero_add _⟩ ?_
 rintro ⟨m665, k666⟩ w669 ⟨hM, hx, hk667⟩
 refine wc_sr <| wv rfl (r_lss rfl rfl) <| wl_sq <| wc_seq ?_
 refine wc_cond rfl (fun hc671 => ?_) (fun hc671 => ?_)
 replace hc671 := of_decide_eq_true hc671
 obtain ⟨m672, z673, rfl, hk667, hx, hx674⟩ := eachN_step hx hk667 hc671
 unfold x_spec_HubOk_f0 x_spec_HubOk_b0 at hx
 try dsimp only at hx
 refine wc_skip <| sq_n <| wc_seq <| wc_block <| wc_sr <| wmv rfl rfl ?_
 have hi677 : k666 < h.docs.length := by omega
 refine wv rfl (r_ixC u33 sz132 rfl rfl (hM.seeR m0) ⟨by omega, hc671⟩) ?_
 obtain ⟨s679, hM, hc680⟩ := hM.leaf (i := k666) (j := 2) m0 (fun _ => rfl) hi677 rfl
 obtain ⟨s681, hM, hc682⟩ := hM.leaf (i := k666) (j := 3) m1 (fun _ => rfl) hi677 rfl
 obtain ⟨s683, hM, hc684⟩ := hM.leaf (i := k666) (j := 4) m2 (fun _ => rfl) hi677 rfl
 refine wv rfl (r_ldC (o := k666 * 5) u132 sz132 rfl (us := [(.string ((el h.docs k666).name)), (iv ((el h.docs k666).from_)), s679.v, s681.v, s683.v]) rfl (hM.seeR m3) hi677 ⟨(Cs.get (i := k666) (j := 0) (hM.seeR m3) (fun _ => rfl) hi677 rfl), (Cs.get (i := k666) (j := 1) (hM.seeR m3) (fun _ => rfl) hi677 rfl), (hc680 _ (Rel.refl _)), (hc682 _ (Rel.refl _)), (hc684 _ (Rel.refl _)), trivial⟩) ?_
 refine w_ex rfl (x_alloc sz132 hM ?_); intro b686 w685 hR687 hM
 refine was rfl rfl ?_
 refine w_exu (x_stB #[(.string ((el h.docs k666).name)), (iv ((el h.docs k666).from_)), s679.v, s681.v, s683.v] sz132 rfl rfl rfl rfl rfl rfl hM ?_); intro w690 hM
 refine wl_sq <| wc_seq <| wc_draw [(0, 0), (1, 0), (2, 0), (3, 0), (4, 0), (5, 0), (6, 0), (7, 0), (8, 0), (9, 0), (10, 0), (11, 0), (12, 0), (13, 0), (14, 0), (15, 0), (16, 0), (17, 0), (18, 0)] Tryz_mixed (by kernel_rfl) rfl (by kernel_rfl) rfl <| ov rfl (fun w' h' => r_ldBS u132 sz132 rfl (us := [(.string ((el h.docs k666).name)), (iv ((el h.docs k666).from_)), s679.v, s681.v, s683.v]) rfl (hM.call h') m0 rfl) <| bs hx fun r693 h694 hx => oc rfl rfl (fun w' h' => (hM.call h').callV fun X S oL hS hR hO => ct_spec_DocOk _ X S (el h.docs k666) s679 s681 s683 hS (hR _ m2) (hR _ m1) (hR _ m0) oL h694) <| ov rfl (fun w' h' => r_not rfl) <| omv rfl rfl <| bs hx fun c698 hx hx731 => ?_
 refine wo_mid 15 [(50, (bv c698)), (1, (pt b619 0)), (25, s_h_1.v), (26, (iv (h.docs.length : Int))), (27, (iv (k666 : Int)))] rfl ?_ ?_
 refine cs2 hx (fun hg699 hx => ?_) (fun hg699 hx => ?_)
 refine ogs rfl (isB_no hg699) rfl <| ogs rfl (isB_no hg699) rfl <| ogs rfl (isB_no hg699) rfl <| ogs rfl rfl rfl <| ogs rfl rfl rfl <| ogs rfl rfl rfl <| ogs rfl rfl rfl <| ogs rfl rfl rfl <| ogs rfl rfl rfl <| ogs rfl rfl rfl <| ogs rfl rfl rfl <| ogs rfl rfl rfl <| ogs rfl rfl rfl <| ogs rfl (isB_no hg699) rfl ?_
 refine ov rfl (fun w' h' => p_t rfl hg699 rfl) ?_
 obtain rfl := oi hx
 exact mid_onil ⟨rfl, rfl, rfl, rfl, rfl, trivial⟩
 refine ogv rfl hg699 rfl (fun w' h' => r_move rfl) <| ogv rfl hg699 rfl (fun w' h' => r_gtr rfl rfl) <| ogv rfl hg699 rfl (fun w' h' => r_move rfl) <| bs hx fun c735 hx hx750 => ?_
 refine wo_mid 11 [(49, (bv c735)), (1, (pt b619 0)), (25, s_h_1.v), (26, (iv (h.docs.length : Int))), (27, (iv (k666 : Int))), (35, (bv (!r693))), (36, (iv (k666 : Int))), (37, (bv (decide ((0 : Int) < (k666 : Int))))), (38, (bv (decide ((0 : Int) < (k666 : Int)))))] rfl ?_ ?_
 refine cs2 hx (fun hg736 hx => ?_) (fun hg736 hx => ?_)
 refine ogv rfl hg736 rfl (fun w' h' => r_fld u36 rfl rfl sz33 rfl) <| ogv rfl hg736 rfl (fun w' h' => r_ldB u33 rfl rfl (hM.call h') m1 rfl) <| ogv rfl hg736 rfl (fun w' h' => r_move rfl) <| xgs hx fun hg755 hx => ogv rfl hg736 rfl (fun w' h' => r_sub rfl rfl hg755) <| xgs hx fun hg758 hx => ?_
 have hi757 : (((k666 : Int) - 1).toNat) < h.docs.length := by omega
 refine ogv rfl hg736 rfl (fun w' h' => r_ixC u33 sz132 rfl rfl ((hM.call h').seeR m3) hg758) <| ogv rfl hg736 rfl (fun w' h' => r_fldC (i := (((k666 : Int) - 1).toNat)) u132 rfl rfl sz9 rfl ((hM.call h').seeR m3) hi757) <| ogv rfl hg736 rfl (fun w' h' => r_ld u9 rfl rfl (Cs.get (i := (((k666 : Int) - 1).toNat)) (j := 0) ((hM.call h').seeR m3) (fun _ => rfl) hi757 rfl)) <| ogv rfl hg736 rfl (fun w' h' => r_fld u132 rfl rfl sz9 rfl) <| ogv rfl hg736 rfl (fun w' h' => r_ldB u9 rfl rfl (hM.call h') m0 rfl) <| ogv rfl hg736 rfl (fun w' h' => r_geqs rfl rfl) <| ogv rfl hg699 rfl (fun w' h' => p_t rfl hg736 rfl) ?_
 cases hx
 exact mid_onil ⟨rfl, rfl, rfl, rfl, rfl, rfl, rfl, rfl, rfl, trivial⟩
 refine ogs rfl (isB_no hg736) rfl <| ogs rfl (isB_no hg736) rfl <| ogs rfl (isB_no hg736) rfl <| ogs rfl (isB_no hg736) rfl <| ogs rfl (isB_no hg736) rfl <| ogs rfl (isB_no hg736) rfl <| ogs rfl (isB_no hg736) rfl <| ogs rfl (isB_no hg736) rfl <| ogs rfl (isB_no hg736) rfl <| ogs rfl (isB_no hg736) rfl <| ogv rfl hg699 rfl (fun w' h' => p_f rfl hg736 rfl) ?_
 obtain rfl := oi hx
 exact mid_onil ⟨rfl, rfl, rfl, rfl, rfl, rfl, rfl, rfl, rfl, trivial⟩
 replace hx := hx750
 refine ov rfl (fun w' h' => p_f rfl hg699 rfl) ?_
 obtain rfl := oi hx
 exact mid_onil ⟨rfl, rfl, rfl, rfl, rfl, trivial⟩
 replace hx := hx731
 refine o_nilM hM fun _ hM => sq_n ?_
 refine wcx hx rfl (fun hx => ?_) (fun hx => ?_)
 refine wc_sr <| was rfl rfl <| wl_sq <| wc_ret <| bk_ret <| sq_ret <| lp1_ret ?_
 cases hx
 obtain rfl := oi hx674
 replace hx := hx664
 refine bk_ret <| sq_ret ?_
 obtain rfl := oi hx
 exact fin_u [(bv false)] hM ⟨rfl, trivial⟩ rfl
 refine wc_skip <| bk_n <| sq_n <| wc_region <| wv rfl (r_add rfl rfl ⟨by omega, by omega⟩) <| wmv rfl rfl <| wl_nil ?_
 cases hx
 replace hM := hM.p1
 replace hM := hM.t1
 have hM := hM.fewer (rsC m3 (rsC m4 rsN))
 replace hM : St ⟨w, X, S⟩ [oBox b619 #[(bv h.shut), s_h_1.v, s_h_2.v, (iv h.last)] 36] [rV s_h_1.v (cSl 5 fDDoc h.docs), rV s_h_2.v (cSl 6 fDSub h.subs)] _ := hM
 exact lp_end (m672, k666 + 1) (Nat.lt_succ_self _) ⟨rfl, rfl, rfl, rfl, trivial⟩ ⟨hM, hx674, hk667⟩
 replace hc671 := of_decide_eq_false hc671
 obtain rfl := eachN_end hx hk667 hc671
 refine wc_exit <| sq_exit <| lp1_exit ?_
 replace hx := hx664
 refine bk_here <| sq_n <| wc_seq <| wc_sr <| wv rfl (r_fld u36 rfl rfl sz34 rfl) <| wv rfl (r_ldB u34 rfl rfl hM m0 rfl) <| wv rfl (r_lenC u34 rfl (hM.seeR m1)) <| wmv rfl rfl <| wl_sq <| wc_block <| bs hx fun y774 hx hx775 => ?_
 have hl779 := Cs.le (hM.seeR m1)
 refine wc_loop (un fun (m776 : Nat) => fun (k777 : Nat) => [(1, (pt b619 0)), (53, s_h_2.v), (54, (iv (h.subs.length : Int))), (55, (iv (k777 : Int)))]) (un fun (m776 : Nat) => fun (k777 : Nat) w' => St ⟨w, X, S⟩ [oBox b619 #[(bv h.shut), s_h_1.v, s_h_2.v, (iv h.last)] 36] [rV s_h_1.v (cSl 5 fDDoc h.docs), rV s_h_2.v (cSl 6 fDSub h.subs)] w' ∧ eachN _ _ m776 k777 () = some y774 ∧ k777 + m776 = h.subs.length) (fun p => p.1) (h.subs.length, 0) ⟨rfl, rfl, rfl, rfl, trivial⟩ ⟨hM, hx, Nat.zero_add _⟩ ?_
 rintro ⟨m776, k777⟩ w780 ⟨hM, hx, hk778⟩
 refine wc_sr <| wv rfl (r_lss rfl rfl) <| wl_sq <| wc_seq ?_
 refine wc_cond rfl (fun hc782 => ?_) (fun hc782 => ?_)
 replace hc782 := of_decide_eq_true hc782
 obtain ⟨m783, z784, rfl, hk778, hx, hx785⟩ := eachN_step hx hk778 hc782
 unfold x_spec_HubOk_f1 x_spec_HubOk_b1 at hx
 try dsimp only at hx
 refine wc_skip <| sq_n <| wc_seq <| wc_block <| wc_sr <| wmv rfl rfl ?_
 have hi788 : k777 < h.subs.length := by omega
 refine wv rfl (r_ixC u34 sz137 rfl rfl (hM.seeR m1) ⟨by omega, hc782⟩) ?_
 obtain ⟨s790, hM, hc791⟩ := hM.leaf (i := k777) (j := 5) m1 (fun _ => rfl) hi788 rfl
 refine wv rfl (r_ldC (o := k777 * 6) u137 sz137 rfl (us := [(iv ((el h.subs k777).id)), (.string ((el h.subs k777).doc)), (iv ((el h.subs k777).r.cap)), (iv ((el h.subs k777).r.next)), (bv ((el h.subs k777).r.out)), s790.v]) rfl (hM.seeR m2) hi788 ⟨(Cs.get (i := k777) (j := 0) (hM.seeR m2) (fun _ => rfl) hi788 rfl), (Cs.get (i := k777) (j := 1) (hM.seeR m2) (fun _ => rfl) hi788 rfl), (Cs.get (i := k777) (j := 2) (hM.seeR m2) (fun _ => rfl) hi788 rfl), (Cs.get (i := k777) (j := 3) (hM.seeR m2) (fun _ => rfl) hi788 rfl), (Cs.get (i := k777) (j := 4) (hM.seeR m2) (fun _ => rfl) hi788 rfl), (hc791 _ (Rel.refl _)), trivial⟩) ?_
 refine w_ex rfl (x_alloc sz137 hM ?_); intro b793 w792 hR794 hM
 refine was rfl rfl ?_
 refine w_exu (x_stB #[(iv ((el h.subs k777).id)), (.string ((el h.subs k777).doc)), (iv ((el h.subs k777).r.cap)), (iv ((el h.subs k777).r.next)), (bv ((el h.subs k777).r.out)), s790.v] sz137 rfl rfl rfl rfl rfl rfl hM ?_); intro w797 hM
 refine wl_sq <| wc_sr <| wv rfl (r_ldBS u36 sz36 rfl (us := [(bv h.shut), s_h_1.v, s_h_2.v, (iv h.last)]) rfl hM m1 rfl) <| wv rfl (r_fld u137 rfl rfl sz9 rfl) <| wv rfl (r_ldB u9 rfl rfl hM m0 rfl) <| bs hx fun r802 h803 hx => w_cv hM rfl rfl (fun X S oL hS hR hO => ct_spec_HubDoc _ X S h s_h_1 s_h_2 ((el h.subs k777).doc) hS (hR _ m1) (hR _ m2) oL h803) fun _ hM => was rfl rfl <| wl_sq <| wc_seq <| wc_seq <| wc_draw [(0, 0), (1, 0), (2, 0), (3, 0), (4, 0), (5, 0), (6, 0), (7, 0), (8, 0), (9, 0), (10, 0), (11, 0), (12, 0), (13, 0), (14, 0), (15, 0), (16, 0), (17, 0), (18, 0), (19, 0), (20, 0), (21, 0), (22, 0), (23, 0), (24, 0), (25, 0), (26, 0), (27, 0), (28, 0), (29, 0), (30, 0), (31, 0)] Tryz_mixed (by kernel_rfl) rfl (by kernel_rfl) rfl <| ov rfl (fun w' h' => r_fld u137 rfl rfl sz3 rfl) <| ov rfl (fun w' h' => r_ldB u3 rfl rfl (hM.call h') m0 rfl) ?_
 refine ov rfl (fun w' h' => r_fld u36 rfl rfl sz3 rfl) <| ov rfl (fun w' h' => r_ldB u3 rfl rfl (hM.call h') m1 rfl) <| bs hx fun _ h811 hx => oc rfl rfl (fun w' h' => (hM.call h').callV fun X S oL hS hR hO => ct_spec_l01In _ X S ((el h.subs k777).id) (1 : Int) h.last hS  oL h811) <| ov rfl (fun w' h' => r_not rfl) <| omv rfl rfl <| bs hx fun c815 hx hx823 => ?_
 refine wo_mid 5 [(75, (bv c815)), (1, (pt b619 0)), (5, (iv (k777 : Int))), (6, (pt b793 0)), (7, (iv r802)), (53, s_h_2.v), (54, (iv (h.subs.length : Int))), (55, (iv (k777 : Int)))] rfl ?_ ?_
 refine cs2 hx (fun hg816 hx => ?_) (fun hg816 hx => ?_)
 refine ogs rfl (isB_no hg816) rfl <| ogs rfl (isB_no hg816) rfl <| ogs rfl (isB_no hg816) rfl <| ogs rfl (isB_no hg816) rfl <| ov rfl (fun w' h' => p_t rfl hg816 rfl) ?_
 obtain rfl := oi hx
 exact mid_onil ⟨rfl, rfl, rfl, rfl, rfl, rfl, rfl, rfl, trivial⟩
 refine ogv rfl hg816 rfl (fun w' h' => r_fld u137 rfl rfl sz135 rfl) <| ogv rfl hg816 rfl (fun w' h' => r_ldBS u135 sz135 rfl (us := [(iv ((el h.subs k777).r.cap)), (iv ((el h.subs k777).r.next)), (bv ((el h.subs k777).r.out)), s790.v]) rfl (hM.call h') m0 rfl) <| bs hx fun _ h827 hx => ogc rfl hg816 rfl rfl (fun w' h' => (hM.call h').callV fun X S oL hS hR hO => ct_spec_RingOk _ X S ((el h.subs k777).r) s790 hS (hR _ m0) oL h827) <| ogv rfl hg816 rfl (fun w' h' => r_not rfl) <| ov rfl (fun w' h' => p_f rfl hg816 rfl) ?_
 cases hx
 exact mid_onil ⟨rfl, rfl, rfl, rfl, rfl, rfl, rfl, rfl, trivial⟩
 replace hx := hx823
 refine omv rfl rfl <| bs hx fun c831 hx hx835 => ?_
 refine wo_mid 3 [(79, (bv c831)), (1, (pt b619 0)), (5, (iv (k777 : Int))), (6, (pt b793 0)), (7, (iv r802)), (53, s_h_2.v), (54, (iv (h.subs.length : Int))), (55, (iv (k777 : Int)))] rfl ?_ ?_
 refine cs2 hx (fun hg832 hx => ?_) (fun hg832 hx => ?_)
 refine ogs rfl (isB_no hg832) rfl <| ogs rfl (isB_no hg832) rfl <| ov rfl (fun w' h' => p_t rfl hg832 rfl) ?_
 obtain rfl := oi hx
 exact mid_onil ⟨rfl, rfl, rfl, rfl, rfl, rfl, rfl, rfl, trivial⟩
 refine ogv rfl hg832 rfl (fun w' h' => r_move rfl) <| ogv rfl hg832 rfl (fun w' h' => r_lss rfl rfl) <| ov rfl (fun w' h' => p_f rfl hg832 rfl) ?_
 cases hx
 exact mid_onil ⟨rfl, rfl, rfl, rfl, rfl, rfl, rfl, rfl, trivial⟩
 replace hx := hx835
 refine omv rfl rfl <| bs hx fun c839 hx hx872 => ?_
 refine wo_mid 15 [(95, (bv c839)), (1, (pt b619 0)), (6, (pt b793 0)), (7, (iv r802)), (53, s_h_2.v), (54, (iv (h.subs.length : Int))), (55, (iv (k777 : Int)))] rfl ?_ ?_
 refine cs2 hx (fun hg840 hx => ?_) (fun hg840 hx => ?_)
 refine ogs rfl (isB_no hg840) rfl <| ogs rfl (isB_no hg840) rfl <| ogs rfl (isB_no hg840) rfl <| ogs rfl rfl rfl <| ogs rfl rfl rfl <| ogs rfl rfl rfl <| ogs rfl rfl rfl <| ogs rfl rfl rfl <| ogs rfl rfl rfl <| ogs rfl rfl rfl <| ogs rfl rfl rfl <| ogs rfl rfl rfl <| ogs rfl rfl rfl <| ogs rfl (isB_no hg840) rfl ?_
 refine ov rfl (fun w' h' => p_t rfl hg840 rfl) ?_
 obtain rfl := oi hx
 exact mid_onil ⟨rfl, rfl, rfl, rfl, rfl, rfl, rfl, trivial⟩
 refine ogv rfl hg840 rfl (fun w' h' => r_move rfl) <| ogv rfl hg840 rfl (fun w' h' => r_gtr rfl rfl) <| ogv rfl hg840 rfl (fun w' h' => r_move rfl) <| bs hx fun c876 hx hx891 => ?_
 refine wo_mid 11 [(94, (bv c876)), (1, (pt b619 0)), (6, (pt b793 0)), (7, (iv r802)), (53, s_h_2.v), (54, (iv (h.subs.length : Int))), (55, (iv (k777 : Int))), (80, (bv c831)), (81, (iv (k777 : Int))), (82, (bv (decide ((0 : Int) < (k777 : Int))))), (83, (bv (decide ((0 : Int) < (k777 : Int)))))] rfl ?_ ?_
 refine cs2 hx (fun hg877 hx => ?_) (fun hg877 hx => ?_)
 refine ogv rfl hg877 rfl (fun w' h' => r_fld u36 rfl rfl sz34 rfl) <| ogv rfl hg877 rfl (fun w' h' => r_ldB u34 rfl rfl (hM.call h') m1 rfl) <| ogv rfl hg877 rfl (fun w' h' => r_move rfl) <| xgs hx fun hg896 hx => ogv rfl hg877 rfl (fun w' h' => r_sub rfl rfl hg896) <| xgs hx fun hg899 hx => ?_
 have hi898 : (((k777 : Int) - 1).toNat) < h.subs.length := by omega
 refine ogv rfl hg877 rfl (fun w' h' => r_ixC u34 sz137 rfl rfl ((hM.call h').seeR m2) hg899) <| ogv rfl hg877 rfl (fun w' h' => r_fldC (i := (((k777 : Int) - 1).toNat)) u137 rfl rfl sz3 rfl ((hM.call h').seeR m2) hi898) <| ogv rfl hg877 rfl (fun w' h' => r_ld u3 rfl rfl (Cs.get (i := (((k777 : Int) - 1).toNat)) (j := 0) ((hM.call h').seeR m2) (fun _ => rfl) hi898 rfl)) <| ogv rfl hg877 rfl (fun w' h' => r_fld u137 rfl rfl sz3 rfl) <| ogv rfl hg877 rfl (fun w' h' => r_ldB u3 rfl rfl (hM.call h') m0 rfl) <| ogv rfl hg877 rfl (fun w' h' => r_geq rfl rfl) <| ogv rfl hg840 rfl (fun w' h' => p_t rfl hg877 rfl) ?_
 cases hx
 exact mid_onil ⟨rfl, rfl, rfl, rfl, rfl, rfl, rfl, rfl, rfl, rfl, rfl, trivial⟩
 refine ogs rfl (isB_no hg877) rfl <| ogs rfl (isB_no hg877) rfl <| ogs rfl (isB_no hg877) rfl <| ogs rfl (isB_no hg877) rfl <| ogs rfl (isB_no hg877) rfl <| ogs rfl (isB_no hg877) rfl <| ogs rfl (isB_no hg877) rfl <| ogs rfl (isB_no hg877) rfl <| ogs rfl (isB_no hg877) rfl <| ogs rfl (isB_no hg877) rfl <| ogv rfl hg840 rfl (fun w' h' => p_f rfl hg877 rfl) ?_
 obtain rfl := oi hx
 exact mid_onil ⟨rfl, rfl, rfl, rfl, rfl, rfl, rfl, rfl, rfl, rfl, rfl, trivial⟩
 replace hx := hx891
 refine ov rfl (fun w' h' => p_f rfl hg840 rfl) ?_
 obtain rfl := oi hx
 exact mid_onil ⟨rfl, rfl, rfl, rfl, rfl, rfl, rfl, trivial⟩
 replace hx := hx872
 refine o_nilM hM fun _ hM => sq_n ?_
 refine wcx hx rfl (fun hx => ?_) (fun hx => ?_)
 refine wc_sr <| was rfl rfl <| wl_sq <| wc_ret <| sq_ret <| bk_ret <| sq_ret <| lp1_ret ?_
 cases hx
 obtain rfl := oi hx785
 replace hx := hx775
 refine bk_ret <| sq_ret ?_
 obtain rfl := oi hx
 exact fin_u [(bv false)] hM ⟨rfl, trivial⟩ rfl
 refine wc_skip <| sq_n <| wc_seq <| wc_draw [(0, 0), (1, 0), (2, 0), (3, 0), (4, 0), (5, 0), (6, 0), (7, 0), (8, 0), (9, 0), (10, 0), (11, 0), (12, 0), (13, 0), (14, 0), (15, 0), (16, 0), (17, 0), (18, 0), (19, 0), (20, 0), (21, 0)] Tryz_mixed (by kernel_rfl) rfl (by kernel_rfl) rfl <| ov rfl (fun w' h' => r_fld u137 rfl rfl sz135 rfl) <| ov rfl (fun w' h' => r_fld u135 rfl rfl sz4 rfl) <| ov rfl (fun w' h' => r_ldB u4 rfl rfl (hM.call h') m0 rfl) <| ov rfl (fun w' h' => r_not rfl) <| omv rfl rfl <| bs hx fun c914 hx hx944 => ?_
 refine wo_mid 17 [(117, (bv c914)), (1, (pt b619 0)), (53, s_h_2.v), (54, (iv (h.subs.length : Int))), (55, (iv (k777 : Int)))] rfl ?_ ?_
 refine cs2 hx (fun hg915 hx => ?_) (fun hg915 hx => ?_)
 refine ogv rfl hg915 rfl (fun w' h' => r_fld u137 rfl rfl sz135 rfl) <| ogv rfl hg915 rfl (fun w' h' => r_fld u135 rfl rfl sz3 rfl) <| ogv rfl hg915 rfl (fun w' h' => r_ldB u3 rfl rfl (hM.call h') m0 rfl) <| ogv rfl hg915 rfl (fun w' h' => r_fld u137 rfl rfl sz135 rfl) <| ogv rfl hg915 rfl (fun w' h' => r_fld u135 rfl rfl sz60 rfl) <| ogv rfl hg915 rfl (fun w' h' => r_ldB u60 rfl rfl (hM.call h') m0 rfl) <| ogv rfl hg915 rfl (fun w' h' => r_lenC u60 rfl ((hM.call h').seeR m0)) <| xgs hx fun hg953 hx => ogv rfl hg915 rfl (fun w' h' => r_add rfl rfl hg953) <| ogv rfl hg915 rfl (fun w' h' => r_fld u36 rfl rfl sz33 rfl) <| ogv rfl hg915 rfl (fun w' h' => r_ldB u33 rfl rfl (hM.call h') m1 rfl) <| ogv rfl hg915 rfl (fun w' h' => r_move rfl) <| xgs hx fun hg959 hx => ?_
 have hi958 : r802.toNat < h.docs.length := by omega
 refine ogv rfl hg915 rfl (fun w' h' => r_ixC u33 sz132 rfl rfl ((hM.call h').seeR m1) hg959) ?_
 obtain ⟨s961, hM, hc962⟩ := hM.leaf (i := r802.toNat) (j := 2) m1 (fun _ => rfl) hi958 rfl
 obtain ⟨s963, hM, hc964⟩ := hM.leaf (i := r802.toNat) (j := 3) m2 (fun _ => rfl) hi958 rfl
 obtain ⟨s965, hM, hc966⟩ := hM.leaf (i := r802.toNat) (j := 4) m3 (fun _ => rfl) hi958 rfl
 refine ogv rfl hg915 rfl (fun w' h' => r_ldC (o := r802.toNat * 5) u132 sz132 rfl (us := [(.string ((el h.docs r802.toNat).name)), (iv ((el h.docs r802.toNat).from_)), s961.v, s963.v, s965.v]) rfl ((hM.call h').seeR m4) hi958 ⟨(Cs.get (i := r802.toNat) (j := 0) ((hM.call h').seeR m4) (fun _ => rfl) hi958 rfl), (Cs.get (i := r802.toNat) (j := 1) ((hM.call h').seeR m4) (fun _ => rfl) hi958 rfl), (hc962 w' h'), (hc964 w' h'), (hc966 w' h'), trivial⟩) <| bs hx fun _ h968 hx => ogc rfl hg915 rfl rfl (fun w' h' => (hM.call h').callV fun X S oL hS hR hO => ct_spec_HeadRev _ X S (el h.docs r802.toNat) s961 s963 s965 hS (hR _ m2) (hR _ m1) (hR _ m0) oL h968) <| xgs hx fun hg971 hx => ogv rfl hg915 rfl (fun w' h' => r_add rfl rfl hg971) <| ogv rfl hg915 rfl (fun w' h' => r_neq rfl rfl) <| ov rfl (fun w' h' => p_t rfl hg915 rfl) ?_
 cases hx
 exact mid_onil ⟨rfl, rfl, rfl, rfl, rfl, trivial⟩
 refine ogs rfl (isB_no hg915) rfl <| ogs rfl (isB_no hg915) rfl <| ogs rfl (isB_no hg915) rfl <| ogs rfl (isB_no hg915) rfl <| ogs rfl (isB_no hg915) rfl <| ogs rfl (isB_no hg915) rfl <| ogs rfl (isB_no hg915) rfl <| ogs rfl (isB_no hg915) rfl <| ogs rfl (isB_no hg915) rfl <| ogs rfl (isB_no hg915) rfl <| ogs rfl (isB_no hg915) rfl <| ogs rfl (isB_no hg915) rfl <| ogs rfl (isB_no hg915) rfl <| ogs rfl (isB_no hg915) rfl ?_
 refine ogs rfl (isB_no hg915) rfl <| ogs rfl (isB_no hg915) rfl <| ov rfl (fun w' h' => p_f rfl hg915 rfl) ?_
 obtain rfl := oi hx
 exact mid_onil ⟨rfl, rfl, rfl, rfl, rfl, trivial⟩
 replace hx := hx944
 refine o_nilM hM fun _ hM => sq_n ?_
 refine wcx hx rfl (fun hx => ?_) (fun hx => ?_)
 refine wc_sr <| was rfl rfl <| wl_sq <| wc_ret <| bk_ret <| sq_ret <| lp1_ret ?_
 cases hx
 obtain rfl := oi hx785
 replace hx := hx775
 refine bk_ret <| sq_ret ?_
 obtain rfl := oi hx
 exact fin_u [(bv false)] hM ⟨rfl, trivial⟩ rfl
 refine wc_skip <| bk_n <| sq_n <| wc_region <| wv rfl (r_add rfl rfl ⟨by omega, by omega⟩) <| wmv rfl rfl <| wl_nil ?_
 cases hx
 replace hM := hM.p1
 replace hM := hM.t1
 have hM := hM.fewer (rsC m1 (rsC m2 rsN))
 replace hM : St ⟨w, X, S⟩ [oBox b619 #[(bv h.shut), s_h_1.v, s_h_2.v, (iv h.last)] 36] [rV s_h_1.v (cSl 5 fDDoc h.docs), rV s_h_2.v (cSl 6 fDSub h.subs)] _ := hM
 exact lp_end (m783, k777 + 1) (Nat.lt_succ_self _) ⟨rfl, rfl, rfl, rfl, trivial⟩ ⟨hM, hx785, hk778⟩
 replace hc782 := of_decide_eq_false hc782
 obtain rfl := eachN_end hx hk778 hc782
 refine wc_exit <| sq_exit <| lp1_exit ?_
 replace hx := hx775
 refine bk_here <| sq_n <| wc_sr <| was rfl rfl <| wl_sq <| wc_ret ?_
 obtain rfl := oi hx
 exact fin_u [(bv true)] hM ⟨rfl, trivial⟩ rfl

end Go.Proofs.YtjbonmmmcnpjiaaGreatDoor
