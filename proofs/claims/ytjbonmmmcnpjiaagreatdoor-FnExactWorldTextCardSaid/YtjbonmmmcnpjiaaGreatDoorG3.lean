/- Walks of functions of this program (printed by a program of ours, by the rules of the layer). No condition. -/
import Derived.Test.YtjbonmmmcnpjiaaGreatDoorG2
import Derived.Test.YtjbonmmmcnpjiaaGreatDoorNz
namespace Go.Proofs.YtjbonmmmcnpjiaaGreatDoor
open Go.RowKit

noncomputable def x_spec_OpNorm_b0 (_o : List DPart) (_k74 : Nat) (x178 : DPart) (l75 : List DPart) (l76 : List Int) (n77 : Int) : Option (Lr (List DPart × List Int × Int) (List DPart × List Int × Int)) :=
  bif decide ((x178.kind) = 1) then (Option.bind (x_spec_l02Keep (⟨l75, l76, n77⟩ : DL02B) (x178.n)) fun r149 => some (Lr.go (r149.list, r149.put, r149.drop))) else (bif decide ((x178.kind) = 2) then (Option.bind (x_spec_l02Put (⟨l75, l76, n77⟩ : DL02B) (x178.signs)) fun r161 => some (Lr.go (r161.list, r161.put, r161.drop))) else (Option.bind (x_spec_l02Drop (⟨l75, l76, n77⟩ : DL02B) (x178.n)) fun r171 => some (Lr.go (r171.list, r171.put, r171.drop))))
noncomputable def x_spec_OpNorm_f0 (o : List DPart) (k74 : Nat) (s179 : List DPart × List Int × Int) : Option (Lr (List DPart × List Int × Int) (List DPart × List Int × Int)) := x_spec_OpNorm_b0 o k74 (el o k74) s179.1 s179.2.1 s179.2.2
noncomputable def x_spec_OpNorm (o : List DPart) : Option (List DPart) :=
  Option.bind (x_spec_OpOk o) fun r3 => bif !r3 then (some []) else (Option.bind (eachN (x_spec_OpNorm_f0 o) (fun (s179 : List DPart × List Int × Int) => ((s179.1, s179.2.1, s179.2.2) : List DPart × List Int × Int)) o.length 0 ([], [], 0)) fun (y180 : List DPart × List Int × Int) => Option.bind (x_spec_l02Done (⟨y180.1, y180.2.1, y180.2.2⟩ : DL02B)) fun r186 => some r186.1)
theorem ct_spec_OpNorm (w : World) (X S : Bs) (o : List DPart) (s_o : Sv) (hS : SX X S w) (a_o_0 : (cSl 3 fDPart o).rd S w s_o.v) (oL : Sep [] X w) {r : List DPart} (hx : x_spec_OpNorm o = some r) :
 Ret Tryz.prog 164 [s_o.v] w (fun u w' => ∃ y : Sv, u = y.v ∧ Gives X S w [oC (cSl 3 fDPart r) y.v] [] w') := by
 unfold x_spec_OpNorm at hx
 refine enter Tryz.func164 rfl Tryz.ntmps164 (by kernel_rfl) rfl ?_
 have hM := (St.enter oL hS).addV a_o_0
 refine wc_sr <| was rfl rfl <| wl_sq <| wc_seq <| wc_sr <| wmv rfl rfl <| bs hx fun _ h197 hx => w_cv hM rfl rfl (fun X S oL hS hR hO => ct_spec_OpOk _ X S o s_o hS (hR _ m0) oL h197) fun _ hM => wv rfl (r_not rfl) <| wl_sq ?_
 refine wcx hx rfl (fun hx => ?_) (fun hx => ?_)
 refine wc_sr <| was rfl rfl <| wl_sq <| wc_ret <| sq_ret ?_
 obtain rfl := oi hx
 have hM := hM.nil0 (T := DPart) 3 fDPart
 refine fin_ret [nS.v] ⟨rfl, trivial⟩ ?_
 replace hM := hM.t1
 exact ⟨nS, rfl, (hM.fewer rsN).gives⟩
 refine wc_skip <| sq_n <| wc_sr <| wv rfl (r_build (cells := #[(.slice none 0 0), (.slice none 0 0), (iv 0)]) rfl (by kernel_rfl)) ?_
 refine w_ex rfl (x_box rfl hM ?_); intro b205 w204 hR206 hM
 refine was rfl rfl <| wl_sq <| wc_seq <| wc_sr <| wmv rfl rfl <| wv rfl (r_lenC u57 rfl (hM.seeR m0)) <| wmv rfl rfl <| wl_sq <| wc_block <| bs hx fun y212 hx hx213 => ?_
 have hM := hM.nil0 (T := DPart) 3 fDPart
 have hM := hM.nil0 (T := Int) 1 fI
 replace hM := hM.p1.p2
 have hl226 := Cs.le (hM.seeR m0)
 refine wc_loop (un fun (m223 : Nat) => un fun (k224 : Nat) => un fun (l216 : List DPart) => un fun (l217 : List Int) => un fun (n218 : Int) => un fun (s220 : Sv) => fun (s222 : Sv) => [(3, (pt b205 0)), (11, s_o.v), (12, (iv (o.length : Int))), (13, (iv (k224 : Int)))]) (un fun (m223 : Nat) => un fun (k224 : Nat) => un fun (l216 : List DPart) => un fun (l217 : List Int) => un fun (n218 : Int) => un fun (s220 : Sv) => fun (s222 : Sv) w' => St ⟨w, X, S⟩ [oBox b205 #[s220.v, s222.v, (iv n218)] 209, oC (cSl 3 fDPart l216) s220.v, oC (cSl 1 fI l217) s222.v] [rV s_o.v (cSl 3 fDPart o)] w' ∧ eachN _ _ m223 k224 (l216, l217, n218) = some y212 ∧ k224 + m223 = o.length) (fun p => p.1) (o.length, 0, [], [], 0, nS, nS) ⟨rfl, rfl, rfl, rfl, trivial⟩ ⟨hM, hx, Nat.zero_add _⟩ ?_
 rintro ⟨m223, k224, l216, l217, n218, s220, s222⟩ w227 ⟨hM, hx, hk225⟩
 refine wc_sr <| wv rfl (r_lss rfl rfl) <| wl_sq <| wc_seq ?_
 refine wc_cond rfl (fun hc229 => ?_) (fun hc229 => ?_)
 replace hc229 := of_decide_eq_true hc229
 obtain ⟨m230, z231, rfl, hk225, hx, hx232⟩ := eachN_step hx hk225 hc229
 unfold x_spec_OpNorm_f0 x_spec_OpNorm_b0 at hx
 try dsimp only at hx
 refine wc_skip <| sq_n <| wc_seq <| wc_block <| wc_sr ?_
 have hi234 : k224 < o.length := by omega
 refine wv rfl (r_ixC u57 sz156 rfl rfl (hM.seeR m0) ⟨by omega, hc229⟩) ?_
 obtain ⟨s236, hM, hc237⟩ := hM.leaf (i := k224) (j := 2) m0 (fun _ => rfl) hi234 rfl
 refine wv rfl (r_ldC (o := k224 * 3) u156 sz156 rfl (us := [(iv ((el o k224).kind)), (iv ((el o k224).n)), s236.v]) rfl (hM.seeR m1) hi234 ⟨(Cs.get (i := k224) (j := 0) (hM.seeR m1) (fun _ => rfl) hi234 rfl), (Cs.get (i := k224) (j := 1) (hM.seeR m1) (fun _ => rfl) hi234 rfl), (hc237 _ (Rel.refl _)), trivial⟩) ?_
 refine w_ex rfl (x_alloc sz156 hM ?_); intro b239 w238 hR240 hM
 refine w_exu (x_stB #[(iv ((el o k224).kind)), (iv ((el o k224).n)), s236.v] sz156 rfl rfl rfl rfl rfl rfl hM ?_); intro w242 hM
 refine wl_sq <| wc_sr <| wv rfl (r_fld u156 rfl rfl sz3 rfl) <| wv rfl (r_ldB u3 rfl rfl hM m0 rfl) <| wl_sq <| wc_block <| wc_sr <| wv rfl (r_eql rfl rfl) <| was rfl rfl <| wl_sq ?_
 refine wcx hx rfl (fun hx => ?_) (fun hx => ?_)
 refine wc_region <| wmv rfl rfl <| wv rfl (r_fld u156 rfl rfl sz3 rfl) <| wv rfl (r_ldB u3 rfl rfl hM m0 rfl) ?_
 replace hM := hM.p3.p3.p3
 refine bs hx fun r252 h253 hx => w_call rfl rfl (hM.callO (l := [oBox b205 #[s220.v, s222.v, (iv n218)] 209, oC (cSl 3 fDPart l216) s220.v, oC (cSl 1 fI l217) s222.v]) fun X S oL hS hR hO => ct_spec_l02Keep _ X S b205 (⟨l216, l217, n218⟩ : DL02B) s220 s222 ((el o k224).n) hS  oL h253) ?_
 rintro _ w254 ⟨⟨s255, s256⟩, rfl, hM⟩
 dsimp only [List.cons_append, List.nil_append] at hM
 refine wl_nil <| bk_n <| bk_n <| sq_n <| wc_region <| wv rfl (r_add rfl rfl ⟨by omega, by omega⟩) <| wmv rfl rfl <| wl_nil ?_
 cases hx
 replace hM := hM.t3
 have hM := hM.fewer (rsC m1 rsN)
 replace hM : St ⟨w, X, S⟩ [oBox b205 #[s255.v, s256.v, (iv r252.drop)] 209, oC (cSl 3 fDPart r252.list) s255.v, oC (cSl 1 fI r252.put) s256.v] [rV s_o.v (cSl 3 fDPart o)] _ := hM
 exact lp_end (m230, k224 + 1, r252.list, r252.put, r252.drop, s255, s256) (Nat.lt_succ_self _) ⟨rfl, rfl, rfl, rfl, trivial⟩ ⟨hM, hx232, hk225⟩
 refine wc_sr <| wv rfl (r_eql rfl rfl) <| was rfl rfl <| wl_sq ?_
 refine wcx hx rfl (fun hx => ?_) (fun hx => ?_)
 refine wc_region <| wmv rfl rfl <| wv rfl (r_fld u156 rfl rfl sz26 rfl) <| wv rfl (r_ldB u26 rfl rfl hM m0 rfl) ?_
 replace hM := hM.p3.p3.p3
 refine bs hx fun r265 h266 hx => w_call rfl rfl (hM.callO (l := [oBox b205 #[s220.v, s222.v, (iv n218)] 209, oC (cSl 3 fDPart l216) s220.v, oC (cSl 1 fI l217) s222.v]) fun X S oL hS hR hO => ct_spec_l02Put _ X S b205 (⟨l216, l217, n218⟩ : DL02B) s220 s222 ((el o k224).signs) s236 hS (hR _ m0) oL h266) ?_
 rintro _ w267 ⟨⟨s268, s269⟩, rfl, hM⟩
 dsimp only [List.cons_append, List.nil_append] at hM
 refine wl_nil <| bk_n <| bk_n <| sq_n <| wc_region <| wv rfl (r_add rfl rfl ⟨by omega, by omega⟩) <| wmv rfl rfl <| wl_nil ?_
 cases hx
 replace hM := hM.t3
 have hM := hM.fewer (rsC m1 rsN)
 replace hM : St ⟨w, X, S⟩ [oBox b205 #[s268.v, s269.v, (iv r265.drop)] 209, oC (cSl 3 fDPart r265.list) s268.v, oC (cSl 1 fI r265.put) s269.v] [rV s_o.v (cSl 3 fDPart o)] _ := hM
 exact lp_end (m230, k224 + 1, r265.list, r265.put, r265.drop, s268, s269) (Nat.lt_succ_self _) ⟨rfl, rfl, rfl, rfl, trivial⟩ ⟨hM, hx232, hk225⟩
 refine wc_region <| wmv rfl rfl <| wv rfl (r_fld u156 rfl rfl sz3 rfl) <| wv rfl (r_ldB u3 rfl rfl hM m0 rfl) ?_
 replace hM := hM.p3.p3.p3
 refine bs hx fun r275 h276 hx => w_call rfl rfl (hM.callO (l := [oBox b205 #[s220.v, s222.v, (iv n218)] 209, oC (cSl 3 fDPart l216) s220.v, oC (cSl 1 fI l217) s222.v]) fun X S oL hS hR hO => ct_spec_l02Drop _ X S b205 (⟨l216, l217, n218⟩ : DL02B) s220 s222 ((el o k224).n) hS  oL h276) ?_
 rintro _ w277 ⟨⟨s278, s279⟩, rfl, hM⟩
 dsimp only [List.cons_append, List.nil_append] at hM
 refine wl_nil <| bk_n <| bk_n <| sq_n <| wc_region <| wv rfl (r_add rfl rfl ⟨by omega, by omega⟩) <| wmv rfl rfl <| wl_nil ?_
 cases hx
 replace hM := hM.t3
 have hM := hM.fewer (rsC m1 rsN)
 replace hM : St ⟨w, X, S⟩ [oBox b205 #[s278.v, s279.v, (iv r275.drop)] 209, oC (cSl 3 fDPart r275.list) s278.v, oC (cSl 1 fI r275.put) s279.v] [rV s_o.v (cSl 3 fDPart o)] _ := hM
 exact lp_end (m230, k224 + 1, r275.list, r275.put, r275.drop, s278, s279) (Nat.lt_succ_self _) ⟨rfl, rfl, rfl, rfl, trivial⟩ ⟨hM, hx232, hk225⟩
 replace hc229 := of_decide_eq_false hc229
 obtain rfl := eachN_end hx hk225 hc229
 refine wc_exit <| sq_exit <| lp1_exit ?_
 replace hx := hx213
 refine bk_here <| sq_n <| wc_sr <| wmv rfl rfl <| bs hx fun _ h284 hx => w_call rfl rfl (hM.callO (l := [oBox b205 #[s220.v, s222.v, (iv n218)] 209, oC (cSl 3 fDPart l216) s220.v, oC (cSl 1 fI l217) s222.v]) fun X S oL hS hR hO => ct_spec_l02Done _ X S b205 (⟨l216, l217, n218⟩ : DL02B) s220 s222 hS  oL h284) ?_
 rintro _ w285 ⟨⟨s286, s287, s288⟩, rfl, hM⟩
 dsimp only [List.cons_append, List.nil_append] at hM
 refine was rfl rfl <| wl_sq <| wc_ret ?_
 obtain rfl := oi hx
 refine fin_ret [s286.v] ⟨rfl, trivial⟩ ?_
 replace hM := hM.t1
 exact ⟨s286, rfl, (hM.fewer rsN).gives⟩

noncomputable def x_spec_IsNorm (o : List DPart) : Option Bool :=
  Option.bind (x_spec_OpOk o) fun r3 => Option.bind (bif r3 then (Option.bind (x_spec_OpNorm o) fun r20 => Option.bind (x_spec_OpSame r20 o) fun r26 => some r26) else (some false)) fun c7 => some c7
theorem ct_spec_IsNorm (w : World) (X S : Bs) (o : List DPart) (s_o : Sv) (hS : SX X S w) (a_o_0 : (cSl 3 fDPart o).rd S w s_o.v) (oL : Sep [] X w) {r : Bool} (hx : x_spec_IsNorm o = some r) :
 Ret Tryz.prog 177 [s_o.v] w (KV X S w (bv r)) := by
 unfold x_spec_IsNorm at hx
 refine enter Tryz.func177 rfl Tryz.ntmps177 (by kernel_rfl) rfl ?_
 have hM := (St.enter oL hS).addV a_o_0
 refine wc_sr <| was rfl rfl <| wl_sq <| wc_sr <| wmv rfl rfl <| bs hx fun _ h33 hx => w_cv hM rfl rfl (fun X S oL hS hR hO => ct_spec_OpOk _ X S o s_o hS (hR _ m0) oL h33) fun _ hM => wmv rfl rfl <| bs hx fun c36 hx hx48 => ?_
 refine wl_midH 5 [(10, (bv c36))] hM ?_ fun w49 hM => ?_
 refine cs2 hx (fun hg37 hx => ?_) (fun hg37 hx => ?_)
 refine gv rfl hg37 rfl (r_move rfl) <| bs hx fun r51 h52 hx => gc rfl hg37 rfl rfl (hM.callO (l := []) fun X S oL hS hR hO => ct_spec_OpNorm _ X S o s_o hS (hR _ m0) oL h52) ?_
 rintro _ w53 ⟨s54, rfl, hM⟩
 dsimp only [List.cons_append, List.nil_append] at hM
 refine gv rfl hg37 rfl (r_move rfl) <| bs hx fun _ h58 hx => g_cv hM hg37 rfl rfl rfl (fun X S oL hS hR hO => ct_spec_OpSame _ X S r51 s54 o s_o hS (seeA hO m0) (hR _ m0) oL h58) fun _ hM => wv rfl (p_t rfl hg37 rfl) ?_
 obtain rfl := oi hx
 replace hM := hM.t0
 exact mid_h ⟨rfl, trivial⟩ hM
 refine gn hg37 rfl rfl <| gn hg37 rfl rfl <| gn hg37 rfl rfl <| gn hg37 rfl rfl <| wv rfl (p_f rfl hg37 rfl) ?_
 obtain rfl := oi hx
 exact mid_h ⟨rfl, trivial⟩ hM
 replace hx := hx48
 refine was rfl rfl <| wl_sq <| wc_ret ?_
 obtain rfl := oi hx
 exact fin_u [(bv c36)] hM ⟨rfl, trivial⟩ rfl

noncomputable def x_impl_Apply_b0 (t : List Int) (_o : List DPart) (_k109 : Nat) (x232 : DPart) (out110 : List Int) (at111 : Int) : Option (Lr (List Int × Int) (List Int)) :=
  bif decide ((x232.kind) = 1) then (xg (inI (at111 + (x232.n))) <| xg (0 ≤ at111 ∧ at111 ≤ (at111 + (x232.n)) ∧ (at111 + (x232.n)) ≤ (t.length : Int)) <| xg (out110.length + ((t.take ((at111 + (x232.n)).toNat)).drop at111.toNat).length ≤ 1099511627776) <| xg (inI (at111 + (x232.n))) <| some (Lr.go (out110 ++ ((t.take ((at111 + (x232.n)).toNat)).drop at111.toNat), at111 + (x232.n)))) else (bif decide ((x232.kind) = 3) then (xg (inI (at111 + (x232.n))) <| some (Lr.go (out110, at111 + (x232.n)))) else (xg (out110.length + (x232.signs).length ≤ 1099511627776) <| some (Lr.go (out110 ++ (x232.signs), at111))))
noncomputable def x_impl_Apply_f0 (t : List Int) (o : List DPart) (k109 : Nat) (s233 : List Int × Int) : Option (Lr (List Int × Int) (List Int)) := x_impl_Apply_b0 t o k109 (el o k109) s233.1 s233.2
noncomputable def x_impl_Apply (o : List DPart) (t : List Int) : Option (List Int × Bool) :=
  Option.bind (x_impl_OpOk o) fun r4 => Option.bind (bif !r4 then (some true) else (Option.bind (x_impl_TextOk t) fun r17 => some (!r17))) fun c9 => Option.bind (bif c9 then (some true) else (Option.bind (x_impl_OpFrom o) fun r32 => some (!decide (r32 = (t.length : Int))))) fun c22 => bif c22 then (some ([], false)) else (Option.bind (eachN (x_impl_Apply_f0 t o) (fun (s233 : List Int × Int) => (s233.1 : List Int)) o.length 0 ([], 0)) fun (y234 : List Int) => some (y234, true))
theorem ct_impl_Apply (w : World) (X S : Bs) (o : List DPart) (s_o : Sv) (t : List Int) (s_t : Sv) (hS : SX X S w) (a_o_0 : (cSl 3 fDPart o).rd S w s_o.v) (a_t_0 : (cSl 1 fI t).rd S w s_t.v) (oL : Sep [] X w) {r : List Int × Bool} (hx : x_impl_Apply o t = some r) :
 Ret Tryz.prog 183 [s_o.v, s_t.v] w (fun u w' => ∃ y : Sv, u = .tuple #[y.v, (bv r.2)] ∧ Gives X S w [oC (cSl 1 fI r.1) y.v] [] w') := by
 unfold x_impl_Apply at hx
 refine enter Tryz.func183 rfl Tryz.ntmps183 (by kernel_rfl) rfl ?_
 have hM := ((St.enter oL hS).addV a_o_0).addV a_t_0
 refine wc_sr <| was rfl rfl <| was rfl rfl <| wl_sq <| wc_seq <| wc_sr <| wmv rfl rfl <| bs hx fun _ h244 hx => w_cv hM rfl rfl (fun X S oL hS hR hO => ct_impl_OpOk _ X S o s_o hS (hR _ m1) oL h244) fun _ hM => wv rfl (r_not rfl) <| wmv rfl rfl <| bs hx fun c248 hx hx255 => ?_
 refine wl_midH 4 [(17, (bv c248)), (0, s_o.v), (1, s_t.v)] hM ?_ fun w256 hM => ?_
 refine cs2 hx (fun hg249 hx => ?_) (fun hg249 hx => ?_)
 refine gn hg249 rfl rfl <| gn hg249 rfl rfl <| gn hg249 rfl rfl <| wv rfl (p_t rfl hg249 rfl) ?_
 obtain rfl := oi hx
 exact mid_h ⟨rfl, rfl, rfl, trivial⟩ hM
 refine gv rfl hg249 rfl (r_move rfl) <| bs hx fun _ h259 hx => g_cv hM hg249 rfl rfl rfl (fun X S oL hS hR hO => ct_impl_TextOk _ X S t s_t hS (hR _ m0) oL h259) fun _ hM => gv rfl hg249 rfl (r_not rfl) <| wv rfl (p_f rfl hg249 rfl) ?_
 cases hx
 exact mid_h ⟨rfl, rfl, rfl, trivial⟩ hM
 replace hx := hx255
 refine wmv rfl rfl <| bs hx fun c263 hx hx272 => ?_
 refine wl_midH 6 [(24, (bv c263)), (0, s_o.v), (1, s_t.v)] hM ?_ fun w273 hM => ?_
 refine cs2 hx (fun hg264 hx => ?_) (fun hg264 hx => ?_)
 refine gn hg264 rfl rfl <| gn hg264 rfl rfl <| gn hg264 rfl rfl <| gn hg264 rfl rfl <| gn hg264 rfl rfl <| wv rfl (p_t rfl hg264 rfl) ?_
 obtain rfl := oi hx
 exact mid_h ⟨rfl, rfl, rfl, trivial⟩ hM
 refine gv rfl hg264 rfl (r_move rfl) <| bs hx fun _ h276 hx => g_cv hM hg264 rfl rfl rfl (fun X S oL hS hR hO => ct_impl_OpFrom _ X S o s_o hS (hR _ m1) oL h276) fun _ hM => gv rfl hg264 rfl (r_move rfl) <| gv rfl hg264 rfl (r_lenC u26 rfl (hM.seeR m0)) <| gv rfl hg264 rfl (r_neq rfl rfl) <| wv rfl (p_f rfl hg264 rfl) ?_
 cases hx
 exact mid_h ⟨rfl, rfl, rfl, trivial⟩ hM
 replace hx := hx272
 refine wl_sq ?_
 refine wcx hx rfl (fun hx => ?_) (fun hx => ?_)
 refine wc_sr <| was rfl rfl <| was rfl rfl <| wl_sq <| wc_ret <| sq_ret ?_
 obtain rfl := oi hx
 have hM := hM.nil0 (T := Int) 1 fI
 refine fin_ret [nS.v, (bv false)] ⟨rfl, rfl, trivial⟩ ?_
 replace hM := hM.t1
 exact ⟨nS, rfl, (hM.fewer rsN).gives⟩
 refine wc_skip <| sq_n <| wc_sr <| was rfl rfl <| wl_sq <| wc_sr <| was rfl rfl <| wl_sq <| wc_seq <| wc_sr <| wmv rfl rfl <| wv rfl (r_lenC u57 rfl (hM.seeR m1)) <| wmv rfl rfl <| wl_sq ?_
 refine wc_block <| bs hx fun y290 hx hx291 => ?_
 have hM := hM.nil0 (T := Int) 1 fI
 have hl300 := Cs.le (hM.seeR m1)
 refine wc_loop (un fun (m297 : Nat) => un fun (k298 : Nat) => un fun (out293 : List Int) => un fun (at294 : Int) => fun (s296 : Sv) => [(1, s_t.v), (6, s296.v), (7, (iv at294)), (25, s_o.v), (26, (iv (o.length : Int))), (27, (iv (k298 : Int)))]) (un fun (m297 : Nat) => un fun (k298 : Nat) => un fun (out293 : List Int) => un fun (at294 : Int) => fun (s296 : Sv) w' => St ⟨w, X, S⟩ [oC (cSl 1 fI out293) s296.v] [rV s_t.v (cSl 1 fI t), rV s_o.v (cSl 3 fDPart o)] w' ∧ eachN _ _ m297 k298 (out293, at294) = some y290 ∧ k298 + m297 = o.length) (fun p => p.1) (o.length, 0, [], 0, nS) ⟨rfl, rfl, rfl, rfl, rfl, rfl, trivial⟩ ⟨hM, hx, Nat.zero_add _⟩ ?_
 rintro ⟨m297, k298, out293, at294, s296⟩ w301 ⟨hM, hx, hk299⟩
 refine wc_sr <| wv rfl (r_lss rfl rfl) <| wl_sq <| wc_seq ?_
 refine wc_cond rfl (fun hc303 => ?_) (fun hc303 => ?_)
 replace hc303 := of_decide_eq_true hc303
 obtain ⟨m304, z305, rfl, hk299, hx, hx306⟩ := eachN_step hx hk299 hc303
 unfold x_impl_Apply_f0 x_impl_Apply_b0 at hx
 try dsimp only at hx
 refine wc_skip <| sq_n <| wc_seq <| wc_block <| wc_sr ?_
 have hi308 : k298 < o.length := by omega
 refine wv rfl (r_ixC u57 sz156 rfl rfl (hM.seeR m1) ⟨by omega, hc303⟩) ?_
 obtain ⟨s310, hM, hc311⟩ := hM.leaf (i := k298) (j := 2) m1 (fun _ => rfl) hi308 rfl
 refine wv rfl (r_ldC (o := k298 * 3) u156 sz156 rfl (us := [(iv ((el o k298).kind)), (iv ((el o k298).n)), s310.v]) rfl (hM.seeR m2) hi308 ⟨(Cs.get (i := k298) (j := 0) (hM.seeR m2) (fun _ => rfl) hi308 rfl), (Cs.get (i := k298) (j := 1) (hM.seeR m2) (fun _ => rfl) hi308 rfl), (hc311 _ (Rel.refl _)), trivial⟩) ?_
 refine w_ex rfl (x_alloc sz156 hM ?_); intro b313 w312 hR314 hM
 refine w_exu (x_stB #[(iv ((el o k298).kind)), (iv ((el o k298).n)), s310.v] sz156 rfl rfl rfl rfl rfl rfl hM ?_); intro w316 hM
 refine wl_sq <| wc_sr <| wv rfl (r_fld u156 rfl rfl sz3 rfl) <| wv rfl (r_ldB u3 rfl rfl hM m0 rfl) <| wl_sq <| wc_block <| wc_sr <| wv rfl (r_eql rfl rfl) <| was rfl rfl <| wl_sq ?_
 refine wcx hx rfl (fun hx => ?_) (fun hx => ?_)
 refine wc_sr <| wmv rfl rfl <| wmv rfl rfl <| wmv rfl rfl <| wmv rfl rfl <| wv rfl (r_fld u156 rfl rfl sz3 rfl) <| wv rfl (r_ldB u3 rfl rfl hM m0 rfl) <| xgs hx fun hg330 hx => wv rfl (r_add rfl rfl hg330) <| xgs hx fun hg332 hx => ?_
 have hM := hM.cutR (L := t) (f := fI) (lo := at294.toNat) (hi := ((at294 + ((el o k298).n)).toNat)) (fun _ => rfl) (by omega) (by omega) m1
 refine wv rfl (r_slc u26 sz3 rfl rfl rfl (hM.seeR m2) hg332) ?_
 replace hM := hM.p1
 refine xgs hx fun hg335 hx => ?_
 refine w_ex rfl (x_append u26 sz3 rfl rfl (hM.seeR m0) flI hM hg335 rfl ?_); intro s334 w333 hM
 refine was rfl rfl <| wl_sq <| wc_region <| wmv rfl rfl <| wv rfl (r_fld u156 rfl rfl sz3 rfl) <| wv rfl (r_ldB u3 rfl rfl hM m1 rfl) <| xgs hx fun hg342 hx => wv rfl (r_add rfl rfl hg342) <| was rfl rfl <| wl_nil <| bk_n <| bk_n <| sq_n <| wc_region ?_
 refine wv rfl (r_add rfl rfl ⟨by omega, by omega⟩) <| wmv rfl rfl <| wl_nil ?_
 cases hx
 replace hM := hM.t1
 have hM := hM.fewer (rsC m2 (rsC m3 rsN))
 replace hM : St ⟨w, X, S⟩ [oC (cSl 1 fI (out293 ++ ((t.take ((at294 + ((el o k298).n)).toNat)).drop at294.toNat))) s334.v] [rV s_t.v (cSl 1 fI t), rV s_o.v (cSl 3 fDPart o)] _ := hM
 exact lp_end (m304, k298 + 1, out293 ++ ((t.take ((at294 + ((el o k298).n)).toNat)).drop at294.toNat), at294 + ((el o k298).n), s334) (Nat.lt_succ_self _) ⟨rfl, rfl, rfl, rfl, rfl, rfl, trivial⟩ ⟨hM, hx306, hk299⟩
 refine wc_sr <| wv rfl (r_eql rfl rfl) <| was rfl rfl <| wl_sq ?_
 refine wcx hx rfl (fun hx => ?_) (fun hx => ?_)
 refine wc_region <| wmv rfl rfl <| wv rfl (r_fld u156 rfl rfl sz3 rfl) <| wv rfl (r_ldB u3 rfl rfl hM m0 rfl) <| xgs hx fun hg353 hx => wv rfl (r_add rfl rfl hg353) <| was rfl rfl <| wl_nil <| bk_n <| bk_n <| sq_n <| wc_region <| wv rfl (r_add rfl rfl ⟨by omega, by omega⟩) <| wmv rfl rfl ?_
 refine wl_nil ?_
 cases hx
 replace hM := hM.p1
 replace hM := hM.t1
 have hM := hM.fewer (rsC m1 (rsC m2 rsN))
 replace hM : St ⟨w, X, S⟩ [oC (cSl 1 fI out293) s296.v] [rV s_t.v (cSl 1 fI t), rV s_o.v (cSl 3 fDPart o)] _ := hM
 exact lp_end (m304, k298 + 1, out293, at294 + ((el o k298).n), s296) (Nat.lt_succ_self _) ⟨rfl, rfl, rfl, rfl, rfl, rfl, trivial⟩ ⟨hM, hx306, hk299⟩
 refine wc_region <| wmv rfl rfl <| wv rfl (r_fld u156 rfl rfl sz26 rfl) <| wv rfl (r_ldB u26 rfl rfl hM m0 rfl) ?_
 replace hM := hM.p1
 refine xgs hx fun hg362 hx => ?_
 refine w_ex rfl (x_append u26 sz3 rfl rfl (hM.seeR m0) flI hM hg362 rfl ?_); intro s361 w360 hM
 refine was rfl rfl <| wl_nil <| bk_n <| bk_n <| sq_n <| wc_region <| wv rfl (r_add rfl rfl ⟨by omega, by omega⟩) <| wmv rfl rfl <| wl_nil ?_
 cases hx
 replace hM := hM.t1
 have hM := hM.fewer (rsC m1 (rsC m2 rsN))
 replace hM : St ⟨w, X, S⟩ [oC (cSl 1 fI (out293 ++ ((el o k298).signs))) s361.v] [rV s_t.v (cSl 1 fI t), rV s_o.v (cSl 3 fDPart o)] _ := hM
 exact lp_end (m304, k298 + 1, out293 ++ ((el o k298).signs), at294, s361) (Nat.lt_succ_self _) ⟨rfl, rfl, rfl, rfl, rfl, rfl, trivial⟩ ⟨hM, hx306, hk299⟩
 replace hc303 := of_decide_eq_false hc303
 obtain rfl := eachN_end hx hk299 hc303
 refine wc_exit <| sq_exit <| lp1_exit ?_
 replace hx := hx291
 refine bk_here <| sq_n <| wc_sr <| wmv rfl rfl <| was rfl rfl <| was rfl rfl <| wl_sq <| wc_ret ?_
 obtain rfl := oi hx
 refine fin_ret [s296.v, (bv true)] ⟨rfl, rfl, trivial⟩ ?_
 replace hM := hM.t1
 exact ⟨s296, rfl, (hM.fewer rsN).gives⟩

noncomputable def x_spec_l03Fits (o : List DPart) (t : List Int) : Option Bool :=
  Option.bind (x_spec_OpOk o) fun r3 => Option.bind (bif r3 then (Option.bind (x_spec_TextOk t) fun r14 => some r14) else (some false)) fun c7 => Option.bind (bif c7 then (Option.bind (x_spec_OpFrom o) fun r28 => some (decide (r28 = (t.length : Int)))) else (some false)) fun c18 => some c18
theorem ct_spec_l03Fits (w : World) (X S : Bs) (o : List DPart) (s_o : Sv) (t : List Int) (s_t : Sv) (hS : SX X S w) (a_o_0 : (cSl 3 fDPart o).rd S w s_o.v) (a_t_0 : (cSl 1 fI t).rd S w s_t.v) (oL : Sep [] X w) {r : Bool} (hx : x_spec_l03Fits o t = some r) :
 Ret Tryz.prog 176 [s_o.v, s_t.v] w (KV X S w (bv r)) := by
 unfold x_spec_l03Fits at hx
 refine enter Tryz.func176 rfl Tryz.ntmps176 (by kernel_rfl) rfl ?_
 have hM := ((St.enter oL hS).addV a_o_0).addV a_t_0
 refine wc_sr <| was rfl rfl <| wl_sq <| wc_sr <| wmv rfl rfl <| bs hx fun _ h38 hx => w_cv hM rfl rfl (fun X S oL hS hR hO => ct_spec_OpOk _ X S o s_o hS (hR _ m1) oL h38) fun _ hM => wmv rfl rfl <| bs hx fun c41 hx hx47 => ?_
 refine wl_midH 3 [(10, (bv c41)), (0, s_o.v), (1, s_t.v)] hM ?_ fun w48 hM => ?_
 refine cs2 hx (fun hg42 hx => ?_) (fun hg42 hx => ?_)
 refine gv rfl hg42 rfl (r_move rfl) <| bs hx fun _ h51 hx => g_cv hM hg42 rfl rfl rfl (fun X S oL hS hR hO => ct_spec_TextOk _ X S t s_t hS (hR _ m0) oL h51) fun _ hM => wv rfl (p_t rfl hg42 rfl) ?_
 obtain rfl := oi hx
 exact mid_h ⟨rfl, rfl, rfl, trivial⟩ hM
 refine gn hg42 rfl rfl <| gn hg42 rfl rfl <| wv rfl (p_f rfl hg42 rfl) ?_
 obtain rfl := oi hx
 exact mid_h ⟨rfl, rfl, rfl, trivial⟩ hM
 replace hx := hx47
 refine wmv rfl rfl <| bs hx fun c54 hx hx63 => ?_
 refine wl_midH 6 [(17, (bv c54))] hM ?_ fun w64 hM => ?_
 refine cs2 hx (fun hg55 hx => ?_) (fun hg55 hx => ?_)
 refine gv rfl hg55 rfl (r_move rfl) <| bs hx fun _ h67 hx => g_cv hM hg55 rfl rfl rfl (fun X S oL hS hR hO => ct_spec_OpFrom _ X S o s_o hS (hR _ m1) oL h67) fun _ hM => gv rfl hg55 rfl (r_move rfl) <| gv rfl hg55 rfl (r_lenC u26 rfl (hM.seeR m0)) <| gv rfl hg55 rfl (r_eql rfl rfl) <| wv rfl (p_t rfl hg55 rfl) ?_
 cases hx
 exact mid_h ⟨rfl, trivial⟩ hM
 refine gn hg55 rfl rfl <| gn hg55 rfl rfl <| gn hg55 rfl rfl <| gn hg55 rfl rfl <| gn hg55 rfl rfl <| wv rfl (p_f rfl hg55 rfl) ?_
 obtain rfl := oi hx
 exact mid_h ⟨rfl, trivial⟩ hM
 replace hx := hx63
 refine was rfl rfl <| wl_sq <| wc_ret ?_
 obtain rfl := oi hx
 exact fin_u [(bv c54)] hM ⟨rfl, trivial⟩ rfl

noncomputable def x_spec_Apply_b0 (t : List Int) (_o : List DPart) (_k20 : Nat) (x143 : DPart) (out21 : List Int) (at22 : Int) : Option (Lr (List Int × Int) (List Int)) :=
  bif decide ((x143.kind) = 1) then (xg (inI (at22 + (x143.n))) <| xg (0 ≤ at22 ∧ at22 ≤ (at22 + (x143.n)) ∧ (at22 + (x143.n)) ≤ (t.length : Int)) <| xg (out21.length + ((t.take ((at22 + (x143.n)).toNat)).drop at22.toNat).length ≤ 1099511627776) <| xg (inI (at22 + (x143.n))) <| some (Lr.go (out21 ++ ((t.take ((at22 + (x143.n)).toNat)).drop at22.toNat), at22 + (x143.n)))) else (bif decide ((x143.kind) = 2) then (xg (out21.length + (x143.signs).length ≤ 1099511627776) <| some (Lr.go (out21 ++ (x143.signs), at22))) else (xg (inI (at22 + (x143.n))) <| some (Lr.go (out21, at22 + (x143.n)))))
noncomputable def x_spec_Apply_f0 (t : List Int) (o : List DPart) (k20 : Nat) (s144 : List Int × Int) : Option (Lr (List Int × Int) (List Int)) := x_spec_Apply_b0 t o k20 (el o k20) s144.1 s144.2
noncomputable def x_spec_Apply (o : List DPart) (t : List Int) : Option (List Int × Bool) :=
  Option.bind (x_spec_l03Fits o t) fun r5 => bif !r5 then (some ([], false)) else (Option.bind (eachN (x_spec_Apply_f0 t o) (fun (s144 : List Int × Int) => (s144.1 : List Int)) o.length 0 ([], 0)) fun (y145 : List Int) => some (y145, true))
theorem ct_spec_Apply (w : World) (X S : Bs) (o : List DPart) (s_o : Sv) (t : List Int) (s_t : Sv) (hS : SX X S w) (a_o_0 : (cSl 3 fDPart o).rd S w s_o.v) (a_t_0 : (cSl 1 fI t).rd S w s_t.v) (oL : Sep [] X w) {r : List Int × Bool} (hx : x_spec_Apply o t = some r) :
 Ret Tryz.prog 142 [s_o.v, s_t.v] w (fun u w' => ∃ y : Sv, u = .tuple #[y.v, (bv r.2)] ∧ Gives X S w [oC (cSl 1 fI r.1) y.v] [] w') := by
 unfold x_spec_Apply at hx
 refine enter Tryz.func142 rfl Tryz.ntmps142 (by kernel_rfl) rfl ?_
 have hM := ((St.enter oL hS).addV a_o_0).addV a_t_0
 refine wc_sr <| was rfl rfl <| was rfl rfl <| wl_sq <| wc_seq <| wc_sr <| wmv rfl rfl <| wmv rfl rfl <| bs hx fun _ h156 hx => w_cv hM rfl rfl (fun X S oL hS hR hO => ct_spec_l03Fits _ X S o s_o t s_t hS (hR _ m1) (hR _ m0) oL h156) fun _ hM => wv rfl (r_not rfl) <| wl_sq ?_
 refine wcx hx rfl (fun hx => ?_) (fun hx => ?_)
 refine wc_sr <| was rfl rfl <| was rfl rfl <| wl_sq <| wc_ret <| sq_ret ?_
 obtain rfl := oi hx
 have hM := hM.nil0 (T := Int) 1 fI
 refine fin_ret [nS.v, (bv false)] ⟨rfl, rfl, trivial⟩ ?_
 replace hM := hM.t1
 exact ⟨nS, rfl, (hM.fewer rsN).gives⟩
 refine wc_skip <| sq_n <| wc_sr ?_
 refine w_ex rfl (x_empty (f := fI) u26 sz3 (fun _ => rfl) hM ?_); intro s164 w163 hR165 hM
 refine was rfl rfl <| wl_sq <| wc_sr <| was rfl rfl <| wl_sq <| wc_seq <| wc_sr <| wmv rfl rfl <| wv rfl (r_lenC u57 rfl (hM.seeR m1)) <| wmv rfl rfl <| wl_sq <| wc_block <| bs hx fun y172 hx hx173 => ?_
 have hl181 := Cs.le (hM.seeR m1)
 refine wc_loop (un fun (m178 : Nat) => un fun (k179 : Nat) => un fun (out174 : List Int) => un fun (at175 : Int) => fun (s177 : Sv) => [(1, s_t.v), (6, s177.v), (7, (iv at175)), (15, s_o.v), (16, (iv (o.length : Int))), (17, (iv (k179 : Int)))]) (un fun (m178 : Nat) => un fun (k179 : Nat) => un fun (out174 : List Int) => un fun (at175 : Int) => fun (s177 : Sv) w' => St ⟨w, X, S⟩ [oC (cSl 1 fI out174) s177.v] [rV s_t.v (cSl 1 fI t), rV s_o.v (cSl 3 fDPart o)] w' ∧ eachN _ _ m178 k179 (out174, at175) = some y172 ∧ k179 + m178 = o.length) (fun p => p.1) (o.length, 0, [], 0, s164) ⟨rfl, rfl, rfl, rfl, rfl, rfl, trivial⟩ ⟨hM, hx, Nat.zero_add _⟩ ?_
 rintro ⟨m178, k179, out174, at175, s177⟩ w182 ⟨hM, hx, hk180⟩
 refine wc_sr <| wv rfl (r_lss rfl rfl) <| wl_sq <| wc_seq ?_
 refine wc_cond rfl (fun hc184 => ?_) (fun hc184 => ?_)
 replace hc184 := of_decide_eq_true hc184
 obtain ⟨m185, z186, rfl, hk180, hx, hx187⟩ := eachN_step hx hk180 hc184
 unfold x_spec_Apply_f0 x_spec_Apply_b0 at hx
 try dsimp only at hx
 refine wc_skip <| sq_n <| wc_seq <| wc_block <| wc_sr ?_
 have hi189 : k179 < o.length := by omega
 refine wv rfl (r_ixC u57 sz156 rfl rfl (hM.seeR m1) ⟨by omega, hc184⟩) ?_
 obtain ⟨s191, hM, hc192⟩ := hM.leaf (i := k179) (j := 2) m1 (fun _ => rfl) hi189 rfl
 refine wv rfl (r_ldC (o := k179 * 3) u156 sz156 rfl (us := [(iv ((el o k179).kind)), (iv ((el o k179).n)), s191.v]) rfl (hM.seeR m2) hi189 ⟨(Cs.get (i := k179) (j := 0) (hM.seeR m2) (fun _ => rfl) hi189 rfl), (Cs.get (i := k179) (j := 1) (hM.seeR m2) (fun _ => rfl) hi189 rfl), (hc192 _ (Rel.refl _)), trivial⟩) ?_
 refine w_ex rfl (x_alloc sz156 hM ?_); intro b194 w193 hR195 hM
 refine w_exu (x_stB #[(iv ((el o k179).kind)), (iv ((el o k179).n)), s191.v] sz156 rfl rfl rfl rfl rfl rfl hM ?_); intro w197 hM
 refine wl_sq <| wc_sr <| wv rfl (r_fld u156 rfl rfl sz3 rfl) <| wv rfl (r_ldB u3 rfl rfl hM m0 rfl) <| wl_sq <| wc_block <| wc_sr <| wv rfl (r_eql rfl rfl) <| was rfl rfl <| wl_sq ?_
 refine wcx hx rfl (fun hx => ?_) (fun hx => ?_)
 refine wc_sr <| wmv rfl rfl <| wmv rfl rfl <| wmv rfl rfl <| wmv rfl rfl <| wv rfl (r_fld u156 rfl rfl sz3 rfl) <| wv rfl (r_ldB u3 rfl rfl hM m0 rfl) <| xgs hx fun hg211 hx => wv rfl (r_add rfl rfl hg211) <| xgs hx fun hg213 hx => ?_
 have hM := hM.cutR (L := t) (f := fI) (lo := at175.toNat) (hi := ((at175 + ((el o k179).n)).toNat)) (fun _ => rfl) (by omega) (by omega) m1
 refine wv rfl (r_slc u26 sz3 rfl rfl rfl (hM.seeR m2) hg213) ?_
 replace hM := hM.p1
 refine xgs hx fun hg216 hx => ?_
 refine w_ex rfl (x_append u26 sz3 rfl rfl (hM.seeR m0) flI hM hg216 rfl ?_); intro s215 w214 hM
 refine was rfl rfl <| wl_sq <| wc_region <| wmv rfl rfl <| wv rfl (r_fld u156 rfl rfl sz3 rfl) <| wv rfl (r_ldB u3 rfl rfl hM m1 rfl) <| xgs hx fun hg223 hx => wv rfl (r_add rfl rfl hg223) <| was rfl rfl <| wl_nil <| bk_n <| bk_n <| sq_n <| wc_region ?_
 refine wv rfl (r_add rfl rfl ⟨by omega, by omega⟩) <| wmv rfl rfl <| wl_nil ?_
 cases hx
 replace hM := hM.t1
 have hM := hM.fewer (rsC m2 (rsC m3 rsN))
 replace hM : St ⟨w, X, S⟩ [oC (cSl 1 fI (out174 ++ ((t.take ((at175 + ((el o k179).n)).toNat)).drop at175.toNat))) s215.v] [rV s_t.v (cSl 1 fI t), rV s_o.v (cSl 3 fDPart o)] _ := hM
 exact lp_end (m185, k179 + 1, out174 ++ ((t.take ((at175 + ((el o k179).n)).toNat)).drop at175.toNat), at175 + ((el o k179).n), s215) (Nat.lt_succ_self _) ⟨rfl, rfl, rfl, rfl, rfl, rfl, trivial⟩ ⟨hM, hx187, hk180⟩
 refine wc_sr <| wv rfl (r_eql rfl rfl) <| was rfl rfl <| wl_sq ?_
 refine wcx hx rfl (fun hx => ?_) (fun hx => ?_)
 refine wc_region <| wmv rfl rfl <| wv rfl (r_fld u156 rfl rfl sz26 rfl) <| wv rfl (r_ldB u26 rfl rfl hM m0 rfl) ?_
 replace hM := hM.p1
 refine xgs hx fun hg235 hx => ?_
 refine w_ex rfl (x_append u26 sz3 rfl rfl (hM.seeR m0) flI hM hg235 rfl ?_); intro s234 w233 hM
 refine was rfl rfl <| wl_nil <| bk_n <| bk_n <| sq_n <| wc_region <| wv rfl (r_add rfl rfl ⟨by omega, by omega⟩) <| wmv rfl rfl <| wl_nil ?_
 cases hx
 replace hM := hM.t1
 have hM := hM.fewer (rsC m1 (rsC m2 rsN))
 replace hM : St ⟨w, X, S⟩ [oC (cSl 1 fI (out174 ++ ((el o k179).signs))) s234.v] [rV s_t.v (cSl 1 fI t), rV s_o.v (cSl 3 fDPart o)] _ := hM
 exact lp_end (m185, k179 + 1, out174 ++ ((el o k179).signs), at175, s234) (Nat.lt_succ_self _) ⟨rfl, rfl, rfl, rfl, rfl, rfl, trivial⟩ ⟨hM, hx187, hk180⟩
 refine wc_region <| wmv rfl rfl <| wv rfl (r_fld u156 rfl rfl sz3 rfl) <| wv rfl (r_ldB u3 rfl rfl hM m0 rfl) <| xgs hx fun hg244 hx => wv rfl (r_add rfl rfl hg244) <| was rfl rfl <| wl_nil <| bk_n <| bk_n <| sq_n <| wc_region <| wv rfl (r_add rfl rfl ⟨by omega, by omega⟩) <| wmv rfl rfl ?_
 refine wl_nil ?_
 cases hx
 replace hM := hM.p1
 replace hM := hM.t1
 have hM := hM.fewer (rsC m1 (rsC m2 rsN))
 replace hM : St ⟨w, X, S⟩ [oC (cSl 1 fI out174) s177.v] [rV s_t.v (cSl 1 fI t), rV s_o.v (cSl 3 fDPart o)] _ := hM
 exact lp_end (m185, k179 + 1, out174, at175 + ((el o k179).n), s177) (Nat.lt_succ_self _) ⟨rfl, rfl, rfl, rfl, rfl, rfl, trivial⟩ ⟨hM, hx187, hk180⟩
 replace hc184 := of_decide_eq_false hc184
 obtain rfl := eachN_end hx hk180 hc184
 refine wc_exit <| sq_exit <| lp1_exit ?_
 replace hx := hx173
 refine bk_here <| sq_n <| wc_sr <| wmv rfl rfl <| was rfl rfl <| was rfl rfl <| wl_sq <| wc_ret ?_
 obtain rfl := oi hx
 refine fin_ret [s177.v, (bv true)] ⟨rfl, rfl, trivial⟩ ?_
 replace hM := hM.t1
 exact ⟨s177, rfl, (hM.fewer rsN).gives⟩

end Go.Proofs.YtjbonmmmcnpjiaaGreatDoor
