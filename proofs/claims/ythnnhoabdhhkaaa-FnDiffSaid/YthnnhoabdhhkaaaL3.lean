/- Walks of functions of this program (printed by a program of ours, by the rules of the layer). No condition. -/
import Derived.Test.YthnnhoabdhhkaaaGW
namespace Go.Proofs.Ythnnhoabdhhkaaa
open Go.RowKit

noncomputable def x_laws_FnDiff (code : List UInt8) : Option Bool :=
  bif decide ((1048576 : Int) < (code.length : Int)) then (some true) else (Option.bind (x_spec_MakeText code 1) fun r7 => Option.bind (x_spec_MakeText code 2) fun r14 => Option.bind (x_impl_Diff r7 r14) fun r22 => Option.bind (x_impl_Between r7 r14) fun r34 => Option.bind (x_impl_Apply r22.1 r7) fun r46 => Option.bind (x_impl_Apply r34.1 r7) fun r58 => Option.bind (x_impl_Common r7 r14) fun r70 => Option.bind (x_impl_Common r14 r7) fun r78 => Option.bind (bif !r22.2 then (some true) else (some (!r34.2))) fun c87 => Option.bind (bif c87 then (some true) else (some (!r46.2))) fun c94 => Option.bind (bif c94 then (some true) else (some (!r58.2))) fun c101 => Option.bind (bif c101 then (some true) else (Option.bind (x_impl_SignsSame r46.1 r14) fun r119 => some (!r119))) fun c108 => Option.bind (bif c108 then (some true) else (Option.bind (x_impl_SignsSame r58.1 r14) fun r136 => some (!r136))) fun c125 => Option.bind (bif c125 then (some true) else (some (!decide ((r70.length : Int) = (r78.length : Int))))) fun c142 => Option.bind (bif c142 then (some true) else (Option.bind (x_laws_longest r7 r14) fun r170 => some (!decide ((r70.length : Int) = r170)))) fun c155 => bif c155 then (some false) else (Option.bind (x_impl_Near r7 r14) fun r178 => Option.bind (x_impl_Sparse r22.1) fun r184 => Option.bind (x_impl_Cost r7 r14) fun r190 => Option.bind (bif decide (r184 = r190) then (Option.bind (x_impl_Sparse r22.1) fun r210 => Option.bind (x_impl_Sparse r34.1) fun r215 => some (decide (r210 ≤ r215))) else (some false)) fun c196 => Option.bind (bif c196 then (Option.bind (x_impl_Sparse r22.1) fun r242 => xg (inI ((r7.length : Int) + (r14.length : Int))) <| xg (inI (2 * (r70.length : Int))) <| xg (inI (((r7.length : Int) + (r14.length : Int)) - (2 * (r70.length : Int)))) <| some (decide (r242 = (((r7.length : Int) + (r14.length : Int)) - (2 * (r70.length : Int)))))) else (some false)) fun c221 => Option.bind (bif c221 then (some (decide ((0 : Int) ≤ r178))) else (some false)) fun c260 => Option.bind (bif c260 then (some (decide (r178 ≤ 100))) else (some false)) fun c267 => Option.bind (bif c267 then (Option.bind (x_impl_SignsSame r7 r14) fun r289 => some ((decide (r178 = 100)) == r289)) else (some false)) fun c274 => some c274))
theorem ct_laws_FnDiff (w : World) (X S : Bs) (code : List UInt8) (s_code : Sv) (hS : ∀ b, S b → b < w.heap.size ∧ ¬ X b) (a_code_0 : (cSl 1 fY code).rd S w s_code.v) (oL : Sep [] X w) {r : Bool} (hx : x_laws_FnDiff code = some r) :
    Ret Try.prog 11 [s_code.v] w (fun u w' => ∃ _ : Unit, u = (.bool r) ∧ Gives X S w [] [] w') := by
  unfold x_laws_FnDiff at hx
  refine enter Try.func11 rfl Try.ntmps11 (by kernel_rfl) rfl ?_
  have hM := St.enter oL hS
  have hM := hM.addE (r := rV s_code.v (cSl 1 fY code)) a_code_0
  refine wc_seq ?_
  refine wc_region ?_
  refine wv rfl (r_assign rfl) ?_
  refine wl_nil ?_
  refine sq_n ?_
  refine wc_seq ?_
  refine wc_seq ?_
  refine wc_region ?_
  refine wv rfl (r_move rfl) ?_
  refine wv rfl (r_lenC Try.underlying66 rfl (hM.seeR (.head _))) ?_
  refine wv rfl (r_gtr rfl rfl) ?_
  refine wl_nil ?_
  refine sq_n ?_
  refine wc_cond rfl (fun hc299 => ?_) (fun hc299 => ?_)
  · replace hx := xif_t hc299 hx
    refine wc_seq ?_
    refine wc_region ?_
    refine wv rfl (r_assign rfl) ?_
    refine wl_nil ?_
    refine sq_n ?_
    refine wc_ret ?_
    refine sq_ret ?_
    obtain rfl := Option.some.inj hx
    refine fin_ret [(.bool true)] ⟨rfl, trivial⟩ ?_
    replace hM : St ⟨w, X, S⟩ [] [rV s_code.v (cSl 1 fY code)] _ := hM.tk 0
    have hM := hM.fewer rsN
    exact ⟨(), rfl, hM.gives⟩
  · replace hx := xif_f hc299 hx
    refine wc_skip ?_
    refine sq_n ?_
    refine wc_seq ?_
    refine wc_region ?_
    refine wv rfl (r_move rfl) ?_
    obtain ⟨r302, h303, hx⟩ := bind_some' hx
    refine w_call rfl rfl (hM.callO (l := []) fun X S oL hS hR hO => ct_spec_MakeText _ X S code s_code (1 : Int) hS (hR _ (.head _)) oL h303) ?_
    rintro _ w304 ⟨s305, rfl, hM⟩
    replace hM : St ⟨w, X, S⟩ [oC (cSl 1 fI r302) s305.v] [rV s_code.v (cSl 1 fY code)] _ := hM
    refine wv rfl (r_assign rfl) ?_
    refine wl_nil ?_
    refine sq_n ?_
    refine wc_seq ?_
    refine wc_region ?_
    refine wv rfl (r_move rfl) ?_
    obtain ⟨r309, h310, hx⟩ := bind_some' hx
    refine w_call rfl rfl (hM.callO (l := []) fun X S oL hS hR hO => ct_spec_MakeText _ X S code s_code (2 : Int) hS (hR _ (.head _)) oL h310) ?_
    rintro _ w311 ⟨s312, rfl, hM⟩
    replace hM : St ⟨w, X, S⟩ [oC (cSl 1 fI r309) s312.v, oC (cSl 1 fI r302) s305.v] [rV s_code.v (cSl 1 fY code)] _ := hM
    refine wv rfl (r_assign rfl) ?_
    refine wl_nil ?_
    refine sq_n ?_
    refine wc_seq ?_
    refine wc_region ?_
    refine wv rfl (r_move rfl) ?_
    refine wv rfl (r_move rfl) ?_
    obtain ⟨r317, h318, hx⟩ := bind_some' hx
    refine w_call rfl rfl (hM.callO (l := []) fun X S oL hS hR hO => ct_impl_Diff _ X S r302 s305 r309 s312 hS (seeA hO (.tail _ (.head _))) (seeA hO (.head _)) oL h318) ?_
    rintro _ w319 ⟨s320, rfl, hM⟩
    replace hM : St ⟨w, X, S⟩ [oC (cSl 3 fDPart r317.1) s320.v, oC (cSl 1 fI r309) s312.v, oC (cSl 1 fI r302) s305.v] [rV s_code.v (cSl 1 fY code)] _ := hM
    refine wv rfl (r_move rfl) ?_
    refine wv rfl (r_extract rfl rfl) ?_
    refine wv rfl (r_extract rfl rfl) ?_
    refine wv rfl (r_assign rfl) ?_
    refine wv rfl (r_assign rfl) ?_
    refine wl_nil ?_
    refine sq_n ?_
    refine wc_seq ?_
    refine wc_region ?_
    refine wv rfl (r_move rfl) ?_
    refine wv rfl (r_move rfl) ?_
    obtain ⟨r329, h330, hx⟩ := bind_some' hx
    refine w_call rfl rfl (hM.callO (l := []) fun X S oL hS hR hO => ct_impl_Between _ X S r302 s305 r309 s312 hS (seeA hO (.tail _ (.tail _ (.head _)))) (seeA hO (.tail _ (.head _))) oL h330) ?_
    rintro _ w331 ⟨s332, rfl, hM⟩
    replace hM : St ⟨w, X, S⟩ [oC (cSl 3 fDPart r329.1) s332.v, oC (cSl 3 fDPart r317.1) s320.v, oC (cSl 1 fI r309) s312.v, oC (cSl 1 fI r302) s305.v] [rV s_code.v (cSl 1 fY code)] _ := hM
    refine wv rfl (r_move rfl) ?_
    refine wv rfl (r_extract rfl rfl) ?_
    refine wv rfl (r_extract rfl rfl) ?_
    refine wv rfl (r_assign rfl) ?_
    refine wv rfl (r_assign rfl) ?_
    refine wl_nil ?_
    refine sq_n ?_
    refine wc_seq ?_
    refine wc_region ?_
    refine wv rfl (r_move rfl) ?_
    refine wv rfl (r_move rfl) ?_
    obtain ⟨r341, h342, hx⟩ := bind_some' hx
    refine w_call rfl rfl (hM.callO (l := []) fun X S oL hS hR hO => ct_impl_Apply _ X S r317.1 s320 r302 s305 hS (seeA hO (.tail _ (.head _))) (seeA hO (.tail _ (.tail _ (.tail _ (.head _))))) oL h342) ?_
    rintro _ w343 ⟨s344, rfl, hM⟩
    replace hM : St ⟨w, X, S⟩ [oC (cSl 1 fI r341.1) s344.v, oC (cSl 3 fDPart r329.1) s332.v, oC (cSl 3 fDPart r317.1) s320.v, oC (cSl 1 fI r309) s312.v, oC (cSl 1 fI r302) s305.v] [rV s_code.v (cSl 1 fY code)] _ := hM
    refine wv rfl (r_move rfl) ?_
    refine wv rfl (r_extract rfl rfl) ?_
    refine wv rfl (r_extract rfl rfl) ?_
    refine wv rfl (r_assign rfl) ?_
    refine wv rfl (r_assign rfl) ?_
    refine wl_nil ?_
    refine sq_n ?_
    refine wc_seq ?_
    refine wc_region ?_
    refine wv rfl (r_move rfl) ?_
    refine wv rfl (r_move rfl) ?_
    obtain ⟨r353, h354, hx⟩ := bind_some' hx
    refine w_call rfl rfl (hM.callO (l := []) fun X S oL hS hR hO => ct_impl_Apply _ X S r329.1 s332 r302 s305 hS (seeA hO (.tail _ (.head _))) (seeA hO (.tail _ (.tail _ (.tail _ (.tail _ (.head _)))))) oL h354) ?_
    rintro _ w355 ⟨s356, rfl, hM⟩
    replace hM : St ⟨w, X, S⟩ [oC (cSl 1 fI r353.1) s356.v, oC (cSl 1 fI r341.1) s344.v, oC (cSl 3 fDPart r329.1) s332.v, oC (cSl 3 fDPart r317.1) s320.v, oC (cSl 1 fI r309) s312.v, oC (cSl 1 fI r302) s305.v] [rV s_code.v (cSl 1 fY code)] _ := hM
    refine wv rfl (r_move rfl) ?_
    refine wv rfl (r_extract rfl rfl) ?_
    refine wv rfl (r_extract rfl rfl) ?_
    refine wv rfl (r_assign rfl) ?_
    refine wv rfl (r_assign rfl) ?_
    refine wl_nil ?_
    refine sq_n ?_
    refine wc_seq ?_
    refine wc_region ?_
    refine wv rfl (r_move rfl) ?_
    refine wv rfl (r_move rfl) ?_
    obtain ⟨r365, h366, hx⟩ := bind_some' hx
    refine w_call rfl rfl (hM.callO (l := []) fun X S oL hS hR hO => ct_impl_Common _ X S r302 s305 r309 s312 hS (seeA hO (.tail _ (.tail _ (.tail _ (.tail _ (.tail _ (.head _))))))) (seeA hO (.tail _ (.tail _ (.tail _ (.tail _ (.head _)))))) oL h366) ?_
    rintro _ w367 ⟨s368, rfl, hM⟩
    replace hM : St ⟨w, X, S⟩ [oC (cSl 1 fI r365) s368.v, oC (cSl 1 fI r353.1) s356.v, oC (cSl 1 fI r341.1) s344.v, oC (cSl 3 fDPart r329.1) s332.v, oC (cSl 3 fDPart r317.1) s320.v, oC (cSl 1 fI r309) s312.v, oC (cSl 1 fI r302) s305.v] [rV s_code.v (cSl 1 fY code)] _ := hM
    refine wv rfl (r_assign rfl) ?_
    refine wl_nil ?_
    refine sq_n ?_
    refine wc_seq ?_
    refine wc_region ?_
    refine wv rfl (r_move rfl) ?_
    refine wv rfl (r_move rfl) ?_
    obtain ⟨r373, h374, hx⟩ := bind_some' hx
    refine w_call rfl rfl (hM.callO (l := []) fun X S oL hS hR hO => ct_impl_Common _ X S r309 s312 r302 s305 hS (seeA hO (.tail _ (.tail _ (.tail _ (.tail _ (.tail _ (.head _))))))) (seeA hO (.tail _ (.tail _ (.tail _ (.tail _ (.tail _ (.tail _ (.head _)))))))) oL h374) ?_
    rintro _ w375 ⟨s376, rfl, hM⟩
    replace hM : St ⟨w, X, S⟩ [oC (cSl 1 fI r373) s376.v, oC (cSl 1 fI r365) s368.v, oC (cSl 1 fI r353.1) s356.v, oC (cSl 1 fI r341.1) s344.v, oC (cSl 3 fDPart r329.1) s332.v, oC (cSl 3 fDPart r317.1) s320.v, oC (cSl 1 fI r309) s312.v, oC (cSl 1 fI r302) s305.v] [rV s_code.v (cSl 1 fY code)] _ := hM
    refine wv rfl (r_assign rfl) ?_
    refine wl_nil ?_
    refine sq_n ?_
    refine wc_seq ?_
    refine wc_seq ?_
    refine wc_region ?_
    refine wv rfl (r_move rfl) ?_
    refine wv rfl (r_not rfl) ?_
    refine wv rfl (r_move rfl) ?_
    obtain ⟨c382, hx, hx386⟩ := bind_some' hx
    refine wl_mid 3 (fun _ : Unit => [(58, (.bool c382)), (3, s305.v), (4, s312.v), (5, s320.v), (7, s332.v), (9, s344.v), (10, (.bool r341.2)), (11, s356.v), (12, (.bool r353.2)), (13, s368.v), (14, s376.v)]) (fun _ w' => St ⟨w, X, S⟩ [oC (cSl 1 fI r373) s376.v, oC (cSl 1 fI r365) s368.v, oC (cSl 1 fI r353.1) s356.v, oC (cSl 1 fI r341.1) s344.v, oC (cSl 3 fDPart r329.1) s332.v, oC (cSl 3 fDPart r317.1) s320.v, oC (cSl 1 fI r309) s312.v, oC (cSl 1 fI r302) s305.v] [rV s_code.v (cSl 1 fY code)] w') ?_ ?_
    · rcases Bool.eq_false_or_eq_true (!r317.2) with hg383 | hg383
      · replace hx := xif_t hg383 hx
        refine gs rfl (isB_no hg383) rfl ?_
        refine gs rfl (isB_no hg383) rfl ?_
        refine wv rfl (p_t rfl hg383 rfl) ?_
        obtain rfl := Option.some.inj hx
        exact mid_nil () ⟨rfl, rfl, rfl, rfl, rfl, rfl, rfl, rfl, rfl, rfl, rfl, trivial⟩ hM
      · replace hx := xif_f hg383 hx
        refine gv rfl hg383 rfl (r_move rfl) ?_
        refine gv rfl hg383 rfl (r_not rfl) ?_
        refine wv rfl (p_f rfl hg383 rfl) ?_
        obtain rfl := Option.some.inj hx
        exact mid_nil () ⟨rfl, rfl, rfl, rfl, rfl, rfl, rfl, rfl, rfl, rfl, rfl, trivial⟩ hM
    rintro _ w389 hM
    replace hx := hx386
    refine wv rfl (r_move rfl) ?_
    obtain ⟨c391, hx, hx395⟩ := bind_some' hx
    refine wl_mid 3 (fun _ : Unit => [(62, (.bool c391)), (3, s305.v), (4, s312.v), (5, s320.v), (7, s332.v), (9, s344.v), (11, s356.v), (12, (.bool r353.2)), (13, s368.v), (14, s376.v)]) (fun _ w' => St ⟨w, X, S⟩ [oC (cSl 1 fI r373) s376.v, oC (cSl 1 fI r365) s368.v, oC (cSl 1 fI r353.1) s356.v, oC (cSl 1 fI r341.1) s344.v, oC (cSl 3 fDPart r329.1) s332.v, oC (cSl 3 fDPart r317.1) s320.v, oC (cSl 1 fI r309) s312.v, oC (cSl 1 fI r302) s305.v] [rV s_code.v (cSl 1 fY code)] w') ?_ ?_
    · rcases Bool.eq_false_or_eq_true c382 with hg392 | hg392
      · replace hx := xif_t hg392 hx
        refine gs rfl (isB_no hg392) rfl ?_
        refine gs rfl (isB_no hg392) rfl ?_
        refine wv rfl (p_t rfl hg392 rfl) ?_
        obtain rfl := Option.some.inj hx
        exact mid_nil () ⟨rfl, rfl, rfl, rfl, rfl, rfl, rfl, rfl, rfl, rfl, trivial⟩ hM
      · replace hx := xif_f hg392 hx
        refine gv rfl hg392 rfl (r_move rfl) ?_
        refine gv rfl hg392 rfl (r_not rfl) ?_
        refine wv rfl (p_f rfl hg392 rfl) ?_
        obtain rfl := Option.some.inj hx
        exact mid_nil () ⟨rfl, rfl, rfl, rfl, rfl, rfl, rfl, rfl, rfl, rfl, trivial⟩ hM
    rintro _ w398 hM
    replace hx := hx395
    refine wv rfl (r_move rfl) ?_
    obtain ⟨c400, hx, hx404⟩ := bind_some' hx
    refine wl_mid 3 (fun _ : Unit => [(66, (.bool c400)), (3, s305.v), (4, s312.v), (5, s320.v), (7, s332.v), (9, s344.v), (11, s356.v), (13, s368.v), (14, s376.v)]) (fun _ w' => St ⟨w, X, S⟩ [oC (cSl 1 fI r373) s376.v, oC (cSl 1 fI r365) s368.v, oC (cSl 1 fI r353.1) s356.v, oC (cSl 1 fI r341.1) s344.v, oC (cSl 3 fDPart r329.1) s332.v, oC (cSl 3 fDPart r317.1) s320.v, oC (cSl 1 fI r309) s312.v, oC (cSl 1 fI r302) s305.v] [rV s_code.v (cSl 1 fY code)] w') ?_ ?_
    · rcases Bool.eq_false_or_eq_true c391 with hg401 | hg401
      · replace hx := xif_t hg401 hx
        refine gs rfl (isB_no hg401) rfl ?_
        refine gs rfl (isB_no hg401) rfl ?_
        refine wv rfl (p_t rfl hg401 rfl) ?_
        obtain rfl := Option.some.inj hx
        exact mid_nil () ⟨rfl, rfl, rfl, rfl, rfl, rfl, rfl, rfl, rfl, trivial⟩ hM
      · replace hx := xif_f hg401 hx
        refine gv rfl hg401 rfl (r_move rfl) ?_
        refine gv rfl hg401 rfl (r_not rfl) ?_
        refine wv rfl (p_f rfl hg401 rfl) ?_
        obtain rfl := Option.some.inj hx
        exact mid_nil () ⟨rfl, rfl, rfl, rfl, rfl, rfl, rfl, rfl, rfl, trivial⟩ hM
    rintro _ w407 hM
    replace hx := hx404
    refine wv rfl (r_move rfl) ?_
    obtain ⟨c409, hx, hx418⟩ := bind_some' hx
    refine wl_mid 5 (fun _ : Unit => [(72, (.bool c409)), (3, s305.v), (4, s312.v), (5, s320.v), (7, s332.v), (11, s356.v), (13, s368.v), (14, s376.v)]) (fun _ w' => St ⟨w, X, S⟩ [oC (cSl 1 fI r373) s376.v, oC (cSl 1 fI r365) s368.v, oC (cSl 1 fI r353.1) s356.v, oC (cSl 1 fI r341.1) s344.v, oC (cSl 3 fDPart r329.1) s332.v, oC (cSl 3 fDPart r317.1) s320.v, oC (cSl 1 fI r309) s312.v, oC (cSl 1 fI r302) s305.v] [rV s_code.v (cSl 1 fY code)] w') ?_ ?_
    · rcases Bool.eq_false_or_eq_true c400 with hg410 | hg410
      · replace hx := xif_t hg410 hx
        refine gs rfl (isB_no hg410) rfl ?_
        refine gs rfl (isB_no hg410) rfl ?_
        refine gs rfl (isB_no hg410) rfl ?_
        refine gs rfl (isB_no hg410) rfl ?_
        refine wv rfl (p_t rfl hg410 rfl) ?_
        obtain rfl := Option.some.inj hx
        exact mid_nil () ⟨rfl, rfl, rfl, rfl, rfl, rfl, rfl, rfl, trivial⟩ hM
      · replace hx := xif_f hg410 hx
        refine gv rfl hg410 rfl (r_move rfl) ?_
        refine gv rfl hg410 rfl (r_move rfl) ?_
        obtain ⟨r421, h422, hx⟩ := bind_some' hx
        refine gc rfl hg410 rfl rfl (hM.callV fun X S oL hS hR hO => ct_impl_SignsSame _ X S r341.1 s344 r309 s312 hS (seeA hO (.tail _ (.tail _ (.tail _ (.head _))))) (seeA hO (.tail _ (.tail _ (.tail _ (.tail _ (.tail _ (.tail _ (.head _)))))))) oL h422) ?_
        rintro _ w423 ⟨rfl, hR424⟩
        have hM := hM.call hR424
        refine gv rfl hg410 rfl (r_not rfl) ?_
        refine wv rfl (p_f rfl hg410 rfl) ?_
        obtain rfl := Option.some.inj hx
        exact mid_nil () ⟨rfl, rfl, rfl, rfl, rfl, rfl, rfl, rfl, trivial⟩ hM
    rintro _ w426 hM
    replace hx := hx418
    refine wv rfl (r_move rfl) ?_
    obtain ⟨c428, hx, hx437⟩ := bind_some' hx
    refine wl_mid 5 (fun _ : Unit => [(78, (.bool c428)), (3, s305.v), (4, s312.v), (5, s320.v), (7, s332.v), (13, s368.v), (14, s376.v)]) (fun _ w' => St ⟨w, X, S⟩ [oC (cSl 1 fI r373) s376.v, oC (cSl 1 fI r365) s368.v, oC (cSl 1 fI r353.1) s356.v, oC (cSl 1 fI r341.1) s344.v, oC (cSl 3 fDPart r329.1) s332.v, oC (cSl 3 fDPart r317.1) s320.v, oC (cSl 1 fI r309) s312.v, oC (cSl 1 fI r302) s305.v] [rV s_code.v (cSl 1 fY code)] w') ?_ ?_
    · rcases Bool.eq_false_or_eq_true c409 with hg429 | hg429
      · replace hx := xif_t hg429 hx
        refine gs rfl (isB_no hg429) rfl ?_
        refine gs rfl (isB_no hg429) rfl ?_
        refine gs rfl (isB_no hg429) rfl ?_
        refine gs rfl (isB_no hg429) rfl ?_
        refine wv rfl (p_t rfl hg429 rfl) ?_
        obtain rfl := Option.some.inj hx
        exact mid_nil () ⟨rfl, rfl, rfl, rfl, rfl, rfl, rfl, trivial⟩ hM
      · replace hx := xif_f hg429 hx
        refine gv rfl hg429 rfl (r_move rfl) ?_
        refine gv rfl hg429 rfl (r_move rfl) ?_
        obtain ⟨r440, h441, hx⟩ := bind_some' hx
        refine gc rfl hg429 rfl rfl (hM.callV fun X S oL hS hR hO => ct_impl_SignsSame _ X S r353.1 s356 r309 s312 hS (seeA hO (.tail _ (.tail _ (.head _)))) (seeA hO (.tail _ (.tail _ (.tail _ (.tail _ (.tail _ (.tail _ (.head _)))))))) oL h441) ?_
        rintro _ w442 ⟨rfl, hR443⟩
        have hM := hM.call hR443
        refine gv rfl hg429 rfl (r_not rfl) ?_
        refine wv rfl (p_f rfl hg429 rfl) ?_
        obtain rfl := Option.some.inj hx
        exact mid_nil () ⟨rfl, rfl, rfl, rfl, rfl, rfl, rfl, trivial⟩ hM
    rintro _ w445 hM
    replace hx := hx437
    refine wv rfl (r_move rfl) ?_
    obtain ⟨c447, hx, hx454⟩ := bind_some' hx
    refine wl_mid 6 (fun _ : Unit => [(85, (.bool c447)), (3, s305.v), (4, s312.v), (5, s320.v), (7, s332.v), (13, s368.v)]) (fun _ w' => St ⟨w, X, S⟩ [oC (cSl 1 fI r373) s376.v, oC (cSl 1 fI r365) s368.v, oC (cSl 1 fI r353.1) s356.v, oC (cSl 1 fI r341.1) s344.v, oC (cSl 3 fDPart r329.1) s332.v, oC (cSl 3 fDPart r317.1) s320.v, oC (cSl 1 fI r309) s312.v, oC (cSl 1 fI r302) s305.v] [rV s_code.v (cSl 1 fY code)] w') ?_ ?_
    · rcases Bool.eq_false_or_eq_true c428 with hg448 | hg448
      · replace hx := xif_t hg448 hx
        refine gs rfl (isB_no hg448) rfl ?_
        refine gs rfl (isB_no hg448) rfl ?_
        refine gs rfl (isB_no hg448) rfl ?_
        refine gs rfl (isB_no hg448) rfl ?_
        refine gs rfl (isB_no hg448) rfl ?_
        refine wv rfl (p_t rfl hg448 rfl) ?_
        obtain rfl := Option.some.inj hx
        exact mid_nil () ⟨rfl, rfl, rfl, rfl, rfl, rfl, trivial⟩ hM
      · replace hx := xif_f hg448 hx
        refine gv rfl hg448 rfl (r_move rfl) ?_
        refine gv rfl hg448 rfl (r_lenC Try.underlying22 rfl (hM.seeO (.tail _ (.head _)))) ?_
        refine gv rfl hg448 rfl (r_move rfl) ?_
        refine gv rfl hg448 rfl (r_lenC Try.underlying22 rfl (hM.seeO (.head _))) ?_
        refine gv rfl hg448 rfl (r_neq rfl rfl) ?_
        refine wv rfl (p_f rfl hg448 rfl) ?_
        obtain rfl := Option.some.inj hx
        exact mid_nil () ⟨rfl, rfl, rfl, rfl, rfl, rfl, trivial⟩ hM
    rintro _ w460 hM
    replace hx := hx454
    refine wv rfl (r_move rfl) ?_
    obtain ⟨c462, hx, hx473⟩ := bind_some' hx
    refine wl_mid 7 (fun _ : Unit => [(93, (.bool c462)), (3, s305.v), (4, s312.v), (5, s320.v), (7, s332.v), (13, s368.v)]) (fun _ w' => St ⟨w, X, S⟩ [oC (cSl 1 fI r373) s376.v, oC (cSl 1 fI r365) s368.v, oC (cSl 1 fI r353.1) s356.v, oC (cSl 1 fI r341.1) s344.v, oC (cSl 3 fDPart r329.1) s332.v, oC (cSl 3 fDPart r317.1) s320.v, oC (cSl 1 fI r309) s312.v, oC (cSl 1 fI r302) s305.v] [rV s_code.v (cSl 1 fY code)] w') ?_ ?_
    · rcases Bool.eq_false_or_eq_true c447 with hg463 | hg463
      · replace hx := xif_t hg463 hx
        refine gs rfl (isB_no hg463) rfl ?_
        refine gs rfl (isB_no hg463) rfl ?_
        refine gs rfl (isB_no hg463) rfl ?_
        refine gs rfl (isB_no hg463) rfl ?_
        refine gs rfl (isB_no hg463) rfl ?_
        refine gs rfl (isB_no hg463) rfl ?_
        refine wv rfl (p_t rfl hg463 rfl) ?_
        obtain rfl := Option.some.inj hx
        exact mid_nil () ⟨rfl, rfl, rfl, rfl, rfl, rfl, trivial⟩ hM
      · replace hx := xif_f hg463 hx
        refine gv rfl hg463 rfl (r_move rfl) ?_
        refine gv rfl hg463 rfl (r_lenC Try.underlying22 rfl (hM.seeO (.tail _ (.head _)))) ?_
        refine gv rfl hg463 rfl (r_move rfl) ?_
        refine gv rfl hg463 rfl (r_move rfl) ?_
        obtain ⟨r478, h479, hx⟩ := bind_some' hx
        refine gc rfl hg463 rfl rfl (hM.callV fun X S oL hS hR hO => ct_laws_longest _ X S r302 s305 r309 s312 hS (seeA hO (.tail _ (.tail _ (.tail _ (.tail _ (.tail _ (.tail _ (.tail _ (.head _))))))))) (seeA hO (.tail _ (.tail _ (.tail _ (.tail _ (.tail _ (.tail _ (.head _)))))))) oL h479) ?_
        rintro _ w480 ⟨rfl, hR481⟩
        have hM := hM.call hR481
        refine gv rfl hg463 rfl (r_neq rfl rfl) ?_
        refine wv rfl (p_f rfl hg463 rfl) ?_
        obtain rfl := Option.some.inj hx
        exact mid_nil () ⟨rfl, rfl, rfl, rfl, rfl, rfl, trivial⟩ hM
    rintro _ w483 hM
    replace hx := hx473
    refine wl_nil ?_
    refine sq_n ?_
    refine wc_cond rfl (fun hc484 => ?_) (fun hc484 => ?_)
    · replace hx := xif_t hc484 hx
      refine wc_seq ?_
      refine wc_region ?_
      refine wv rfl (r_assign rfl) ?_
      refine wl_nil ?_
      refine sq_n ?_
      refine wc_ret ?_
      refine sq_ret ?_
      obtain rfl := Option.some.inj hx
      refine fin_ret [(.bool false)] ⟨rfl, trivial⟩ ?_
      replace hM : St ⟨w, X, S⟩ [] [rV s_code.v (cSl 1 fY code)] _ := hM.tk 0
      have hM := hM.fewer rsN
      exact ⟨(), rfl, hM.gives⟩
    · replace hx := xif_f hc484 hx
      refine wc_skip ?_
      refine sq_n ?_
      refine wc_seq ?_
      refine wc_region ?_
      refine wv rfl (r_move rfl) ?_
      refine wv rfl (r_move rfl) ?_
      obtain ⟨r488, h489, hx⟩ := bind_some' hx
      refine w_call rfl rfl (hM.callV fun X S oL hS hR hO => ct_impl_Near _ X S r302 s305 r309 s312 hS (seeA hO (.tail _ (.tail _ (.tail _ (.tail _ (.tail _ (.tail _ (.tail _ (.head _))))))))) (seeA hO (.tail _ (.tail _ (.tail _ (.tail _ (.tail _ (.tail _ (.head _)))))))) oL h489) ?_
      rintro _ w490 ⟨rfl, hR491⟩
      have hM := hM.call hR491
      refine wv rfl (r_assign rfl) ?_
      refine wl_nil ?_
      refine sq_n ?_
      refine wc_seq ?_
      refine wc_region ?_
      refine wv rfl (r_move rfl) ?_
      obtain ⟨r494, h495, hx⟩ := bind_some' hx
      refine w_call rfl rfl (hM.callV fun X S oL hS hR hO => ct_impl_Sparse _ X S r317.1 s320 hS (seeA hO (.tail _ (.tail _ (.tail _ (.tail _ (.tail _ (.head _))))))) oL h495) ?_
      rintro _ w496 ⟨rfl, hR497⟩
      have hM := hM.call hR497
      refine wv rfl (r_move rfl) ?_
      refine wv rfl (r_move rfl) ?_
      obtain ⟨r500, h501, hx⟩ := bind_some' hx
      refine w_call rfl rfl (hM.callV fun X S oL hS hR hO => ct_impl_Cost _ X S r302 s305 r309 s312 hS (seeA hO (.tail _ (.tail _ (.tail _ (.tail _ (.tail _ (.tail _ (.tail _ (.head _))))))))) (seeA hO (.tail _ (.tail _ (.tail _ (.tail _ (.tail _ (.tail _ (.head _)))))))) oL h501) ?_
      rintro _ w502 ⟨rfl, hR503⟩
      have hM := hM.call hR503
      refine wv rfl (r_eql rfl rfl) ?_
      refine wv rfl (r_move rfl) ?_
      obtain ⟨c506, hx, hx519⟩ := bind_some' hx
      refine wl_mid 6 (fun _ : Unit => [(109, (.bool c506)), (3, s305.v), (4, s312.v), (5, s320.v), (13, s368.v), (15, (.int .i64 r488))]) (fun _ w' => St ⟨w, X, S⟩ [oC (cSl 1 fI r373) s376.v, oC (cSl 1 fI r365) s368.v, oC (cSl 1 fI r353.1) s356.v, oC (cSl 1 fI r341.1) s344.v, oC (cSl 3 fDPart r329.1) s332.v, oC (cSl 3 fDPart r317.1) s320.v, oC (cSl 1 fI r309) s312.v, oC (cSl 1 fI r302) s305.v] [rV s_code.v (cSl 1 fY code)] w') ?_ ?_
      · rcases Bool.eq_false_or_eq_true (decide (r494 = r500)) with hg507 | hg507
        · replace hx := xif_t hg507 hx
          refine gv rfl hg507 rfl (r_move rfl) ?_
          obtain ⟨r521, h522, hx⟩ := bind_some' hx
          refine gc rfl hg507 rfl rfl (hM.callV fun X S oL hS hR hO => ct_impl_Sparse _ X S r317.1 s320 hS (seeA hO (.tail _ (.tail _ (.tail _ (.tail _ (.tail _ (.head _))))))) oL h522) ?_
          rintro _ w523 ⟨rfl, hR524⟩
          have hM := hM.call hR524
          refine gv rfl hg507 rfl (r_move rfl) ?_
          obtain ⟨r526, h527, hx⟩ := bind_some' hx
          refine gc rfl hg507 rfl rfl (hM.callV fun X S oL hS hR hO => ct_impl_Sparse _ X S r329.1 s332 hS (seeA hO (.tail _ (.tail _ (.tail _ (.tail _ (.head _)))))) oL h527) ?_
          rintro _ w528 ⟨rfl, hR529⟩
          have hM := hM.call hR529
          refine gv rfl hg507 rfl (r_leq rfl rfl) ?_
          refine wv rfl (p_t rfl hg507 rfl) ?_
          obtain rfl := Option.some.inj hx
          exact mid_nil () ⟨rfl, rfl, rfl, rfl, rfl, rfl, trivial⟩ hM
        · replace hx := xif_f hg507 hx
          refine gs rfl (isB_no hg507) rfl ?_
          refine gs rfl (isB_no hg507) rfl ?_
          refine gs rfl (isB_no hg507) rfl ?_
          refine gs rfl (isB_no hg507) rfl ?_
          refine gs rfl (isB_no hg507) rfl ?_
          refine wv rfl (p_f rfl hg507 rfl) ?_
          obtain rfl := Option.some.inj hx
          exact mid_nil () ⟨rfl, rfl, rfl, rfl, rfl, rfl, trivial⟩ hM
      rintro _ w531 hM
      replace hx := hx519
      refine wv rfl (r_move rfl) ?_
      obtain ⟨c533, hx, hx553⟩ := bind_some' hx
      refine wl_mid 13 (fun _ : Unit => [(123, (.bool c533)), (3, s305.v), (4, s312.v), (15, (.int .i64 r488))]) (fun _ w' => St ⟨w, X, S⟩ [oC (cSl 1 fI r373) s376.v, oC (cSl 1 fI r365) s368.v, oC (cSl 1 fI r353.1) s356.v, oC (cSl 1 fI r341.1) s344.v, oC (cSl 3 fDPart r329.1) s332.v, oC (cSl 3 fDPart r317.1) s320.v, oC (cSl 1 fI r309) s312.v, oC (cSl 1 fI r302) s305.v] [rV s_code.v (cSl 1 fY code)] w') ?_ ?_
      · rcases Bool.eq_false_or_eq_true c506 with hg534 | hg534
        · replace hx := xif_t hg534 hx
          refine gv rfl hg534 rfl (r_move rfl) ?_
          obtain ⟨r555, h556, hx⟩ := bind_some' hx
          refine gc rfl hg534 rfl rfl (hM.callV fun X S oL hS hR hO => ct_impl_Sparse _ X S r317.1 s320 hS (seeA hO (.tail _ (.tail _ (.tail _ (.tail _ (.tail _ (.head _))))))) oL h556) ?_
          rintro _ w557 ⟨rfl, hR558⟩
          have hM := hM.call hR558
          refine gv rfl hg534 rfl (r_move rfl) ?_
          refine gv rfl hg534 rfl (r_lenC Try.underlying22 rfl (hM.seeO (.tail _ (.tail _ (.tail _ (.tail _ (.tail _ (.tail _ (.tail _ (.head _)))))))))) ?_
          refine gv rfl hg534 rfl (r_move rfl) ?_
          refine gv rfl hg534 rfl (r_lenC Try.underlying22 rfl (hM.seeO (.tail _ (.tail _ (.tail _ (.tail _ (.tail _ (.tail _ (.head _))))))))) ?_
          obtain ⟨hg564, hx⟩ := xg_some hx
          refine gv rfl hg534 rfl (r_add rfl rfl hg564) ?_
          refine gv rfl hg534 rfl (r_move rfl) ?_
          refine gv rfl hg534 rfl (r_lenC Try.underlying22 rfl (hM.seeO (.tail _ (.head _)))) ?_
          obtain ⟨hg568, hx⟩ := xg_some hx
          refine gv rfl hg534 rfl (r_mul rfl rfl hg568) ?_
          obtain ⟨hg570, hx⟩ := xg_some hx
          refine gv rfl hg534 rfl (r_sub rfl rfl hg570) ?_
          refine gv rfl hg534 rfl (r_eql rfl rfl) ?_
          refine wv rfl (p_t rfl hg534 rfl) ?_
          obtain rfl := Option.some.inj hx
          exact mid_nil () ⟨rfl, rfl, rfl, rfl, trivial⟩ hM
        · replace hx := xif_f hg534 hx
          refine gs rfl (isB_no hg534) rfl ?_
          refine gs rfl (isB_no hg534) rfl ?_
          refine gs rfl (isB_no hg534) rfl ?_
          refine gs rfl (isB_no hg534) rfl ?_
          refine gs rfl (isB_no hg534) rfl ?_
          refine gs rfl (isB_no hg534) rfl ?_
          refine gs rfl (isB_no hg534) rfl ?_
          refine gs rfl (isB_no hg534) rfl ?_
          refine gs rfl (isB_no hg534) rfl ?_
          refine gs rfl (isB_no hg534) rfl ?_
          refine gs rfl (isB_no hg534) rfl ?_
          refine gs rfl (isB_no hg534) rfl ?_
          refine wv rfl (p_f rfl hg534 rfl) ?_
          obtain rfl := Option.some.inj hx
          exact mid_nil () ⟨rfl, rfl, rfl, rfl, trivial⟩ hM
      rintro _ w572 hM
      replace hx := hx553
      refine wv rfl (r_move rfl) ?_
      obtain ⟨c574, hx, hx578⟩ := bind_some' hx
      refine wl_mid 3 (fun _ : Unit => [(127, (.bool c574)), (3, s305.v), (4, s312.v), (15, (.int .i64 r488))]) (fun _ w' => St ⟨w, X, S⟩ [oC (cSl 1 fI r373) s376.v, oC (cSl 1 fI r365) s368.v, oC (cSl 1 fI r353.1) s356.v, oC (cSl 1 fI r341.1) s344.v, oC (cSl 3 fDPart r329.1) s332.v, oC (cSl 3 fDPart r317.1) s320.v, oC (cSl 1 fI r309) s312.v, oC (cSl 1 fI r302) s305.v] [rV s_code.v (cSl 1 fY code)] w') ?_ ?_
      · rcases Bool.eq_false_or_eq_true c533 with hg575 | hg575
        · replace hx := xif_t hg575 hx
          refine gv rfl hg575 rfl (r_move rfl) ?_
          refine gv rfl hg575 rfl (r_geq rfl rfl) ?_
          refine wv rfl (p_t rfl hg575 rfl) ?_
          obtain rfl := Option.some.inj hx
          exact mid_nil () ⟨rfl, rfl, rfl, rfl, trivial⟩ hM
        · replace hx := xif_f hg575 hx
          refine gs rfl (isB_no hg575) rfl ?_
          refine gs rfl (isB_no hg575) rfl ?_
          refine wv rfl (p_f rfl hg575 rfl) ?_
          obtain rfl := Option.some.inj hx
          exact mid_nil () ⟨rfl, rfl, rfl, rfl, trivial⟩ hM
      rintro _ w581 hM
      replace hx := hx578
      refine wv rfl (r_move rfl) ?_
      obtain ⟨c583, hx, hx587⟩ := bind_some' hx
      refine wl_mid 3 (fun _ : Unit => [(131, (.bool c583)), (3, s305.v), (4, s312.v), (15, (.int .i64 r488))]) (fun _ w' => St ⟨w, X, S⟩ [oC (cSl 1 fI r373) s376.v, oC (cSl 1 fI r365) s368.v, oC (cSl 1 fI r353.1) s356.v, oC (cSl 1 fI r341.1) s344.v, oC (cSl 3 fDPart r329.1) s332.v, oC (cSl 3 fDPart r317.1) s320.v, oC (cSl 1 fI r309) s312.v, oC (cSl 1 fI r302) s305.v] [rV s_code.v (cSl 1 fY code)] w') ?_ ?_
      · rcases Bool.eq_false_or_eq_true c574 with hg584 | hg584
        · replace hx := xif_t hg584 hx
          refine gv rfl hg584 rfl (r_move rfl) ?_
          refine gv rfl hg584 rfl (r_leq rfl rfl) ?_
          refine wv rfl (p_t rfl hg584 rfl) ?_
          obtain rfl := Option.some.inj hx
          exact mid_nil () ⟨rfl, rfl, rfl, rfl, trivial⟩ hM
        · replace hx := xif_f hg584 hx
          refine gs rfl (isB_no hg584) rfl ?_
          refine gs rfl (isB_no hg584) rfl ?_
          refine wv rfl (p_f rfl hg584 rfl) ?_
          obtain rfl := Option.some.inj hx
          exact mid_nil () ⟨rfl, rfl, rfl, rfl, trivial⟩ hM
      rintro _ w590 hM
      replace hx := hx587
      refine wv rfl (r_move rfl) ?_
      obtain ⟨c592, hx, hx603⟩ := bind_some' hx
      refine wl_mid 7 (fun _ : Unit => [(139, (.bool c592))]) (fun _ w' => St ⟨w, X, S⟩ [oC (cSl 1 fI r373) s376.v, oC (cSl 1 fI r365) s368.v, oC (cSl 1 fI r353.1) s356.v, oC (cSl 1 fI r341.1) s344.v, oC (cSl 3 fDPart r329.1) s332.v, oC (cSl 3 fDPart r317.1) s320.v, oC (cSl 1 fI r309) s312.v, oC (cSl 1 fI r302) s305.v] [rV s_code.v (cSl 1 fY code)] w') ?_ ?_
      · rcases Bool.eq_false_or_eq_true c583 with hg593 | hg593
        · replace hx := xif_t hg593 hx
          refine gv rfl hg593 rfl (r_move rfl) ?_
          refine gv rfl hg593 rfl (r_eql rfl rfl) ?_
          refine gv rfl hg593 rfl (r_move rfl) ?_
          refine gv rfl hg593 rfl (r_move rfl) ?_
          obtain ⟨r608, h609, hx⟩ := bind_some' hx
          refine gc rfl hg593 rfl rfl (hM.callV fun X S oL hS hR hO => ct_impl_SignsSame _ X S r302 s305 r309 s312 hS (seeA hO (.tail _ (.tail _ (.tail _ (.tail _ (.tail _ (.tail _ (.tail _ (.head _))))))))) (seeA hO (.tail _ (.tail _ (.tail _ (.tail _ (.tail _ (.tail _ (.head _)))))))) oL h609) ?_
          rintro _ w610 ⟨rfl, hR611⟩
          have hM := hM.call hR611
          refine gv rfl hg593 rfl (r_eqlb Try.underlying4 rfl rfl) ?_
          refine wv rfl (p_t rfl hg593 rfl) ?_
          obtain rfl := Option.some.inj hx
          exact mid_nil () ⟨rfl, trivial⟩ hM
        · replace hx := xif_f hg593 hx
          refine gs rfl (isB_no hg593) rfl ?_
          refine gs rfl (isB_no hg593) rfl ?_
          refine gs rfl (isB_no hg593) rfl ?_
          refine gs rfl (isB_no hg593) rfl ?_
          refine gs rfl (isB_no hg593) rfl ?_
          refine gs rfl (isB_no hg593) rfl ?_
          refine wv rfl (p_f rfl hg593 rfl) ?_
          obtain rfl := Option.some.inj hx
          exact mid_nil () ⟨rfl, trivial⟩ hM
      rintro _ w613 hM
      replace hx := hx603
      refine wv rfl (r_assign rfl) ?_
      refine wl_nil ?_
      refine sq_n ?_
      refine wc_ret ?_
      obtain rfl := Option.some.inj hx
      refine fin_ret [(.bool c592)] ⟨rfl, trivial⟩ ?_
      replace hM : St ⟨w, X, S⟩ [] [rV s_code.v (cSl 1 fY code)] _ := hM.tk 0
      have hM := hM.fewer rsN
      exact ⟨(), rfl, hM.gives⟩

end Go.Proofs.Ythnnhoabdhhkaaa
