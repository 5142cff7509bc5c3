/- Walks of functions of this program (printed by a program of ours, by the rules of the layer). No condition. -/
import Derived.Test.YtjbonmmmcnpjiaaGreatDoorG2
import Derived.Test.YtjbonmmmcnpjiaaGreatDoorNw
namespace Go.Proofs.YtjbonmmmcnpjiaaGreatDoor
open Go.RowKit

noncomputable def x_spec_OpNorm_b0 (_o : List DPart) (_k74 : Nat) (x178 : DPart) (l75 : List DPart) (l76 : List Int) (n77 : Int) : Option (Lr (List DPart × List Int × Int) (List DPart × List Int × Int)) :=
  bif decide ((x178.kind) = 1) then (Option.bind (x_spec_l02Keep (⟨l75, l76, n77⟩ : DL02B) (x178.n)) fun r149 => some (Lr.go (r149.list, r149.put, r149.drop))) else (bif decide ((x178.kind) = 2) then (Option.bind (x_spec_l02Put (⟨l75, l76, n77⟩ : DL02B) (x178.signs)) fun r161 => some (Lr.go (r161.list, r161.put, r161.drop))) else (Option.bind (x_spec_l02Drop (⟨l75, l76, n77⟩ : DL02B) (x178.n)) fun r171 => some (Lr.go (r171.list, r171.put, r171.drop))))
noncomputable def x_spec_OpNorm_f0 (o : List DPart) (k74 : Nat) (s179 : List DPart × List Int × Int) : Option (Lr (List DPart × List Int × Int) (List DPart × List Int × Int)) := x_spec_OpNorm_b0 o k74 (el o k74) s179.1 s179.2.1 s179.2.2
noncomputable def x_spec_OpNorm (o : List DPart) : Option (List DPart) :=
  Option.bind (x_spec_OpOk o) fun r3 => bif !r3 then (some []) else (Option.bind (eachN (x_spec_OpNorm_f0 o) (fun (s179 : List DPart × List Int × Int) => ((s179.1, s179.2.1, s179.2.2) : List DPart × List Int × Int)) o.length 0 ([], [], 0)) fun (y180 : List DPart × List Int × Int) => Option.bind (x_spec_l02Done (⟨y180.1, y180.2.1, y180.2.2⟩ : DL02B)) fun r186 => some r186.1)
theorem ct_spec_OpNorm (w : World) (X S : Bs) (o : List DPart) (s_o : Sv) (hS : SX X S w) (a_o_0 : (cSl 3 fDPart o).rd S w s_o.v) (oL : Sep [] X w) {r : List DPart} (hx : x_spec_OpNorm o = some r) :
 Ret Tryz.prog 164 [s_o.v] w (fun u w' => ∃ y : Sv, u = y.v ∧ Gives X S w [oC (cSl 3 fDPart r) y.v] [] w') := by
 unfold x_spec_OpNorm at hx
 refine enter Tryz.func164 rfl Tryz.ntmps164 (by kernel_rfl) rfl ?_
 have hM := (St.enter oL hS).addV a_o_0
 refine wc_sr <| was rfl rfl <| wl_sq <| wc_seq <| wc_sr <| wmv rfl rfl <| bs hx fun _ h197 hx => w_cv hM rfl rfl (fun X S oL hS hR hO => ct_spec_OpOk _ X S o s_o hS (hR _ m0) oL h197) fun _ hM => wv rfl (r_not rfl) <| wl_sq ?_
 refine wcx hx rfl (fun hx => ?_) (fun hx => ?_)
 refine wc_sr <| was rfl rfl <| wl_sq <| wc_ret <| sq_ret ?_
 obtain rfl := oi hx
 have hM := hM.nil0 (T := DPart) 3 fDPart
 refine fin_ret [nS.v] ⟨rfl, trivial⟩ ?_
 replace hM := hM.t1
 exact ⟨nS, rfl, (hM.fewer rsN).gives⟩
 refine wc_skip <| sq_n <| wc_sr <| wv rfl (r_build (cells := #[(.slice none 0 0), (.slice none 0 0), (iv 0)]) rfl (by kernel_rfl)) ?_
 refine w_ex rfl (x_box rfl hM ?_); intro b205 w204 hR206 hM
 refine was rfl rfl <| wl_sq <| wc_seq <| wc_sr <| wmv rfl rfl <| wv rfl (r_lenC u57 rfl (hM.seeR m0)) <| wmv rfl rfl <| wl_sq <| wc_block <| bs hx fun y212 hx hx213 => ?_
 have hM := hM.nil0 (T := DPart) 3 fDPart
 have hM := hM.nil0 (T := Int) 1 fI
 replace hM := hM.p1.p2
 have hl226 := Cs.le (hM.seeR m0)
 refine wc_loop (un fun (m223 : Nat) => un fun (k224 : Nat) => un fun (l216 : List DPart) => un fun (l217 : List Int) => un fun (n218 : Int) => un fun (s220 : Sv) => fun (s222 : Sv) => [(3, (pt b205 0)), (11, s_o.v), (12, (iv (o.length : Int))), (13, (iv (k224 : Int)))]) (un fun (m223 : Nat) => un fun (k224 : Nat) => un fun (l216 : List DPart) => un fun (l217 : List Int) => un fun (n218 : Int) => un fun (s220 : Sv) => fun (s222 : Sv) w' => St ⟨w, X, S⟩ [oBox b205 #[s220.v, s222.v, (iv n218)] 209, oC (cSl 3 fDPart l216) s220.v, oC (cSl 1 fI l217) s222.v] [rV s_o.v (cSl 3 fDPart o)] w' ∧ eachN _ _ m223 k224 (l216, l217, n218) = some y212 ∧ k224 + m223 = o.length) (fun p => p.1) (o.length, 0, [], [], 0, nS, nS) ⟨rfl, rfl, rfl, rfl, trivial⟩ ⟨hM, hx, Nat.zero_add _⟩ ?_
 rintro ⟨m223, k224, l216, l217, n218, s220, s222⟩ w227 ⟨hM, hx, hk225⟩
 refine wc_sr <| wv rfl (r_lss rfl rfl) <| wl_sq <| wc_seq ?_
 refine wc_cond rfl (fun hc229 => ?_) (fun hc229 => ?_)
 replace hc229 := of_decide_eq_true hc229
 obtain ⟨m230, z231, rfl, hk225, hx, hx232⟩ := eachN_step hx hk225 hc229
 unfold x_spec_OpNorm_f0 x_spec_OpNorm_b0 at hx
 try dsimp only at hx
 refine wc_skip <| sq_n <| wc_seq <| wc_block <| wc_sr ?_
 have hi234 : k224 < o.length := by omega
 refine wv rfl (r_ixC u57 sz156 rfl rfl (hM.seeR m0) ⟨by omega, hc229⟩) ?_
 obtain ⟨s236, hM, hc237⟩ := hM.leaf (i := k224) (j := 2) m0 (fun _ => rfl) hi234 rfl
 refine wv rfl (r_ldC (o := k224 * 3) u156 sz156 rfl (us := [(iv ((el o k224).kind)), (iv ((el o k224).n)), s236.v]) rfl (hM.seeR m1) hi234 ⟨(Cs.get (i := k224) (j := 0) (hM.seeR m1) (fun _ => rfl) hi234 rfl), (Cs.get (i := k224) (j := 1) (hM.seeR m1) (fun _ => rfl) hi234 rfl), (hc237 _ (Rel.refl _)), trivial⟩) ?_
 refine w_ex rfl (x_alloc sz156 hM ?_); intro b239 w238 hR240 hM
 refine w_exu (x_stB #[(iv ((el o k224).kind)), (iv ((el o k224).n)), s236.v] sz156 rfl rfl rfl rfl rfl rfl hM ?_); intro w242 hM
 refine wl_sq <| wc_sr <| wv rfl (r_fld u156 rfl rfl sz3 rfl) <| wv rfl (r_ldB u3 rfl rfl hM m0 rfl) <| wl_sq <| wc_block <| wc_sr <| wv rfl (r_eql rfl rfl) <| was rfl rfl <| wl_sq ?_
 refine wcx hx rfl (fun hx => ?_) (fun hx => ?_)
 refine wc_region <| wmv rfl rfl <| wv rfl (r_fld u156 rfl rfl sz3 rfl) <| wv rfl (r_ldB u3 rfl rfl hM m0 rfl) ?_
 replace hM := hM.p3.p3.p3
 refine bs hx fun r252 h253 hx => w_call rfl rfl (hM.callO (l := [oBox b205 #[s220.v, s222.v, (iv n218)] 209, oC (cSl 3 fDPart l216) s220.v, oC (cSl 1 fI l217) s222.v]) fun X S oL hS hR hO => ct_spec_l02Keep _ X S b205 (⟨l216, l217, n218⟩ : DL02B) s220 s222 ((el o k224).n) hS  oL h253) ?_
 rintro _ w254 ⟨⟨s255, s256⟩, rfl, hM⟩
 dsimp only [List.cons_append, List.nil_append] at hM
 refine wl_nil <| bk_n <| bk_n <| sq_n <| wc_region <| wv rfl (r_add rfl rfl ⟨by omega, by omega⟩) <| wmv rfl rfl <| wl_nil ?_
 cases hx
 replace hM := hM.t3
 have hM := hM.fewer (rsC m1 rsN)
 replace hM : St ⟨w, X, S⟩ [oBox b205 #[s255.v, s256.v, (iv r252.drop)] 209, oC (cSl 3 fDPart r252.list) s255.v, oC (cSl 1 fI r252.put) s256.v] [rV s_o.v (cSl 3 fDPart o)] _ := hM
 exact lp_end (m230, k224 + 1, r252.list, r252.put, r252.drop, s255, s256) (Nat.lt_succ_self _) ⟨rfl, rfl, rfl, rfl, trivial⟩ ⟨hM, hx232, hk225⟩
 refine wc_sr <| wv rfl (r_eql rfl rfl) <| was rfl rfl <| wl_sq ?_
 refine wcx hx rfl (fun hx => ?_) (fun hx => ?_)
 refine wc_region <| wmv rfl rfl <| wv rfl (r_fld u156 rfl rfl sz26 rfl) <| wv rfl (r_ldB u26 rfl rfl hM m0 rfl) ?_
 replace hM := hM.p3.p3.p3
 refine bs hx fun r265 h266 hx => w_call rfl rfl (hM.callO (l := [oBox b205 #[s220.v, s222.v, (iv n218)] 209, oC (cSl 3 fDPart l216) s220.v, oC (cSl 1 fI l217) s222.v]) fun X S oL hS hR hO => ct_spec_l02Put _ X S b205 (⟨l216, l217, n218⟩ : DL02B) s220 s222 ((el o k224).signs) s236 hS (hR _ m0) oL h266) ?_
 rintro _ w267 ⟨⟨s268, s269⟩, rfl, hM⟩
 dsimp only [List.cons_append, List.nil_append] at hM
 refine wl_nil <| bk_n <| bk_n <| sq_n <| wc_region <| wv rfl (r_add rfl rfl ⟨by omega, by omega⟩) <| wmv rfl rfl <| wl_nil ?_
 cases hx
 replace hM := hM.t3
 have hM := hM.fewer (rsC m1 rsN)
 replace hM : St ⟨w, X, S⟩ [oBox b205 #[s268.v, s269.v, (iv r265.drop)] 209, oC (cSl 3 fDPart r265.list) s268.v, oC (cSl 1 fI r265.put) s269.v] [rV s_o.v (cSl 3 fDPart o)] _ := hM
 exact lp_end (m230, k224 + 1, r265.list, r265.put, r265.drop, s268, s269) (Nat.lt_succ_self _) ⟨rfl, rfl, rfl, rfl, trivial⟩ ⟨hM, hx232, hk225⟩
 refine wc_region <| wmv rfl rfl <| wv rfl (r_fld u156 rfl rfl sz3 rfl) <| wv rfl (r_ldB u3 rfl rfl hM m0 rfl) ?_
 replace hM := hM.p3.p3.p3
 refine bs hx fun r275 h276 hx => w_call rfl rfl (hM.callO (l := [oBox b205 #[s220.v, s222.v, (iv n218)] 209, oC (cSl 3 fDPart l216) s220.v, oC (cSl 1 fI l217) s222.v]) fun X S oL hS hR hO => ct_spec_l02Drop _ X S b205 (⟨l216, l217, n218⟩ : DL02B) s220 s222 ((el o k224).n) hS  oL h276) ?_
 rintro _ w277 ⟨⟨s278, s279⟩, rfl, hM⟩
 dsimp only [List.cons_append, List.nil_append] at hM
 refine wl_nil <| bk_n <| bk_n <| sq_n <| wc_region <| wv rfl (r_add rfl rfl ⟨by omega, by omega⟩) <| wmv rfl rfl <| wl_nil ?_
 cases hx
 replace hM := hM.t3
 have hM := hM.fewer (rsC m1 rsN)
 replace hM : St ⟨w, X, S⟩ [oBox b205 #[s278.v, s279.v, (iv r275.drop)] 209, oC (cSl 3 fDPart r275.list) s278.v, oC (cSl 1 fI r275.put) s279.v] [rV s_o.v (cSl 3 fDPart o)] _ := hM
 exact lp_end (m230, k224 + 1, r275.list, r275.put, r275.drop, s278, s279) (Nat.lt_succ_self _) ⟨rfl, rfl, rfl, rfl, trivial⟩ ⟨hM, hx232, hk225⟩
 replace hc229 := of_decide_eq_false hc229
 obtain rfl := eachN_end hx hk225 hc229
 refine wc_exit <| sq_exit <| lp1_exit ?_
 replace hx := hx213
 refine bk_here <| sq_n <| wc_sr <| wmv rfl rfl <| bs hx fun _ h284 hx => w_call rfl rfl (hM.callO (l := [oBox b205 #[s220.v, s222.v, (iv n218)] 209, oC (cSl 3 fDPart l216) s220.v, oC (cSl 1 fI l217) s222.v]) fun X S oL hS hR hO => ct_spec_l02Done _ X S b205 (⟨l216, l217, n218⟩ : DL02B) s220 s222 hS  oL h284) ?_
 rintro _ w285 ⟨⟨s286, s287, s288⟩, rfl, hM⟩
 dsimp only [List.cons_append, List.nil_append] at hM
 refine was rfl rfl <| wl_sq <| wc_ret ?_
 obtain rfl := oi hx
 refine fin_ret [s286.v] ⟨rfl, trivial⟩ ?_
 replace hM := hM.t1
 exact ⟨s286, rfl, (hM.fewer rsN).gives⟩

end Go.Proofs.YtjbonmmmcnpjiaaGreatDoor
