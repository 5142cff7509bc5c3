/- Walks of functions of this program (printed by a program of ours, by the rules of the layer). No condition. -/
import Derived.Test.YthfkcpdechjmnaaGW
import Derived.Test.YthfkcpdechjmnaaNr
namespace Go.Proofs.Ythfkcpdechjmnaa
open Go.RowKit

noncomputable def x_laws_FnUndo (code : List UInt8) : Option Bool :=
  bif decide ((1048576 : Int) < (code.length : Int)) then (some true) else (Option.bind (x_spec_MakeStory code) fun r7 => Option.bind (x_spec_MakeOp code (r7.2.length : Int)) fun r29 => Option.bind (x_impl_PastDo r7.1 r29 r7.2) fun r38 => Option.bind (x_impl_Apply r29 r7.2) fun r57 => Option.bind (x_impl_PastUndo r38.1 r57.1) fun r69 => Option.bind (x_impl_Apply r69.2.1 r57.1) fun r92 => Option.bind (x_impl_PastRedo r69.1 r92.1) fun r104 => Option.bind (x_impl_Apply r104.2.1 r92.1) fun r127 => Option.bind (bif r38.2 then (some r57.2) else (some false)) fun c139 => Option.bind (bif c139 then (some r69.2.2) else (some false)) fun c144 => Option.bind (bif c144 then (some r92.2) else (some false)) fun c149 => Option.bind (bif c149 then (some r104.2.2) else (some false)) fun c154 => Option.bind (bif c154 then (some r127.2) else (some false)) fun c159 => Option.bind (bif c159 then (Option.bind (x_impl_SignsSame r92.1 r7.2) fun r174 => some r174) else (some false)) fun c164 => Option.bind (bif c164 then (Option.bind (x_impl_SignsSame r127.1 r57.1) fun r189 => some r189) else (some false)) fun c179 => Option.bind (bif c179 then (Option.bind (x_impl_PastOk r7.1) fun r202 => some r202) else (some false)) fun c194 => Option.bind (bif c194 then (Option.bind (x_impl_PastOk r69.1) fun r215 => some r215) else (some false)) fun c207 => Option.bind (bif c207 then (Option.bind (x_impl_PastSame r104.1 r38.1) fun r230 => some r230) else (some false)) fun c220 => Option.bind (bif c220 then (Option.bind (x_impl_OpNorm r29) fun r250 => Option.bind (x_impl_OpSame r104.2.1 r250) fun r255 => some r255) else (some false)) fun c235 => some c235)
theorem ct_laws_FnUndo (w : World) (X S : Bs) (code : List UInt8) (s_code : Sv) (hS : ∀ b, S b → b < w.heap.size ∧ ¬ X b) (a_code_0 : (cSl 1 fY code).rd S w s_code.v) (oL : Sep [] X w) {r : Bool} (hx : x_laws_FnUndo code = some r) :
    Ret Try.prog 3 [s_code.v] w (fun u w' => ∃ _ : Unit, u = (.bool r) ∧ Gives X S w [] [] w') := by
  unfold x_laws_FnUndo at hx
  refine enter Try.func3 rfl Try.ntmps3 (by kernel_rfl) rfl ?_
  have hM := St.enter oL hS
  have hM := hM.addE (r := rV s_code.v (cSl 1 fY code)) a_code_0
  refine wc_seq ?_
  refine wc_region ?_
  refine wv rfl (r_assign rfl) ?_
  refine wl_nil ?_
  refine sq_n ?_
  refine wc_seq ?_
  refine wc_seq ?_
  refine wc_region ?_
  refine wv rfl (r_move rfl) ?_
  refine wv rfl (r_lenC Try.underlying22 rfl (hM.seeR (.head _))) ?_
  refine wv rfl (r_gtr rfl rfl) ?_
  refine wl_nil ?_
  refine sq_n ?_
  refine wc_cond rfl (fun hc264 => ?_) (fun hc264 => ?_)
  · replace hx := xif_t hc264 hx
    refine wc_seq ?_
    refine wc_region ?_
    refine wv rfl (r_assign rfl) ?_
    refine wl_nil ?_
    refine sq_n ?_
    refine wc_ret ?_
    refine sq_ret ?_
    obtain rfl := Option.some.inj hx
    refine fin_ret [(.bool true)] ⟨rfl, trivial⟩ ?_
    replace hM := hM.t0
    have hM := hM.fewer rsN
    exact ⟨(), rfl, hM.gives⟩
  · replace hx := xif_f hc264 hx
    refine wc_skip ?_
    refine sq_n ?_
    refine wc_seq ?_
    refine wc_region ?_
    refine wv rfl (r_move rfl) ?_
    obtain ⟨r267, h268, hx⟩ := bind_some' hx
    refine w_call rfl rfl (hM.callO (l := []) fun X S oL hS hR hO => ct_spec_MakeStory _ X S code s_code hS (hR _ (.head _)) oL h268) ?_
    rintro _ w269 ⟨⟨s270, s271, s272⟩, rfl, hM⟩
    replace hM : St ⟨w, X, S⟩ [oC (cSl 1 fLDPart r267.1.undo) s270.v, oC (cSl 1 fLDPart r267.1.redo) s271.v, oC (cSl 1 fI r267.2) s272.v] [rV s_code.v (cSl 1 fY code)] _ := hM
    refine wv rfl (r_move rfl) ?_
    refine wv rfl (r_extract rfl rfl) ?_
    refine wv rfl (r_extract rfl rfl) ?_
    refine w_ex rfl (x_alloc sz25 hM ?_); intro b280 w279 hR281 hM
    replace hM : St ⟨w, X, S⟩ [oBox b280 #[(.int .i64 0), (.slice none 0 0), (.slice none 0 0)] 25, oC (cSl 1 fLDPart r267.1.undo) s270.v, oC (cSl 1 fLDPart r267.1.redo) s271.v, oC (cSl 1 fI r267.2) s272.v] [rV s_code.v (cSl 1 fY code)] _ := hM
    refine w_exu (x_stB #[(.int .i64 r267.1.n), s270.v, s271.v] sz25 rfl rfl rfl rfl rfl rfl hM ?_); intro w283 hM
    refine wv rfl (r_assign rfl) ?_
    refine wl_nil ?_
    refine sq_n ?_
    refine wc_seq ?_
    refine wc_region ?_
    refine wv rfl (r_move rfl) ?_
    refine wv rfl (r_move rfl) ?_
    refine wv rfl (r_lenC Try.underlying26 rfl (hM.seeO (.tail _ (.tail _ (.tail _ (.head _)))))) ?_
    obtain ⟨r289, h290, hx⟩ := bind_some' hx
    refine w_call rfl rfl (hM.callO (l := []) fun X S oL hS hR hO => ct_spec_MakeOp _ X S code s_code (r267.2.length : Int) hS (hR _ (.head _)) oL h290) ?_
    rintro _ w291 ⟨s292, rfl, hM⟩
    replace hM : St ⟨w, X, S⟩ [oC (cSl 3 fDPart r289) s292.v, oBox b280 #[(.int .i64 r267.1.n), s270.v, s271.v] 25, oC (cSl 1 fLDPart r267.1.undo) s270.v, oC (cSl 1 fLDPart r267.1.redo) s271.v, oC (cSl 1 fI r267.2) s272.v] [rV s_code.v (cSl 1 fY code)] _ := hM
    refine wv rfl (r_assign rfl) ?_
    refine wl_nil ?_
    refine sq_n ?_
    refine wc_seq ?_
    refine wc_region ?_
    refine wv rfl (r_ldBS Try.underlying25 sz25 rfl (us := [(.int .i64 r267.1.n), s270.v, s271.v]) rfl hM (.tail _ (.head _)) rfl) ?_
    refine wv rfl (r_move rfl) ?_
    refine wv rfl (r_move rfl) ?_
    obtain ⟨r298, h299, hx⟩ := bind_some' hx
    refine w_call rfl rfl (hM.callO (l := []) fun X S oL hS hR hO => ct_impl_PastDo _ X S r267.1 s270 s271 r289 s292 r267.2 s272 hS (seeA hO (.tail _ (.tail _ (.head _)))) (seeA hO (.tail _ (.tail _ (.tail _ (.head _))))) (seeA hO (.head _)) (seeA hO (.tail _ (.tail _ (.tail _ (.tail _ (.head _)))))) oL h299) ?_
    rintro _ w300 ⟨⟨s301, s302⟩, rfl, hM⟩
    replace hM : St ⟨w, X, S⟩ [oC (cSl 1 fLDPart r298.1.undo) s301.v, oC (cSl 1 fLDPart r298.1.redo) s302.v, oC (cSl 3 fDPart r289) s292.v, oBox b280 #[(.int .i64 r267.1.n), s270.v, s271.v] 25, oC (cSl 1 fLDPart r267.1.undo) s270.v, oC (cSl 1 fLDPart r267.1.redo) s271.v, oC (cSl 1 fI r267.2) s272.v] [rV s_code.v (cSl 1 fY code)] _ := hM
    refine wv rfl (r_move rfl) ?_
    refine wv rfl (r_extract rfl rfl) ?_
    refine wv rfl (r_extract rfl rfl) ?_
    refine w_ex rfl (x_alloc sz25 hM ?_); intro b309 w308 hR310 hM
    replace hM : St ⟨w, X, S⟩ [oBox b309 #[(.int .i64 0), (.slice none 0 0), (.slice none 0 0)] 25, oC (cSl 1 fLDPart r298.1.undo) s301.v, oC (cSl 1 fLDPart r298.1.redo) s302.v, oC (cSl 3 fDPart r289) s292.v, oBox b280 #[(.int .i64 r267.1.n), s270.v, s271.v] 25, oC (cSl 1 fLDPart r267.1.undo) s270.v, oC (cSl 1 fLDPart r267.1.redo) s271.v, oC (cSl 1 fI r267.2) s272.v] [rV s_code.v (cSl 1 fY code)] _ := hM
    refine w_exu (x_stB #[(.int .i64 r298.1.n), s301.v, s302.v] sz25 rfl rfl rfl rfl rfl rfl hM ?_); intro w312 hM
    refine wv rfl (r_assign rfl) ?_
    refine wl_nil ?_
    refine sq_n ?_
    refine wc_seq ?_
    refine wc_region ?_
    refine wv rfl (r_move rfl) ?_
    refine wv rfl (r_move rfl) ?_
    obtain ⟨r317, h318, hx⟩ := bind_some' hx
    refine w_call rfl rfl (hM.callO (l := []) fun X S oL hS hR hO => ct_impl_Apply _ X S r289 s292 r267.2 s272 hS (seeA hO (.tail _ (.tail _ (.tail _ (.head _))))) (seeA hO (.tail _ (.tail _ (.tail _ (.tail _ (.tail _ (.tail _ (.tail _ (.head _))))))))) oL h318) ?_
    rintro _ w319 ⟨s320, rfl, hM⟩
    replace hM : St ⟨w, X, S⟩ [oC (cSl 1 fI r317.1) s320.v, oBox b309 #[(.int .i64 r298.1.n), s301.v, s302.v] 25, oC (cSl 1 fLDPart r298.1.undo) s301.v, oC (cSl 1 fLDPart r298.1.redo) s302.v, oC (cSl 3 fDPart r289) s292.v, oBox b280 #[(.int .i64 r267.1.n), s270.v, s271.v] 25, oC (cSl 1 fLDPart r267.1.undo) s270.v, oC (cSl 1 fLDPart r267.1.redo) s271.v, oC (cSl 1 fI r267.2) s272.v] [rV s_code.v (cSl 1 fY code)] _ := hM
    refine wv rfl (r_move rfl) ?_
    refine wv rfl (r_extract rfl rfl) ?_
    refine wv rfl (r_extract rfl rfl) ?_
    refine wv rfl (r_assign rfl) ?_
    refine wv rfl (r_assign rfl) ?_
    refine wl_nil ?_
    refine sq_n ?_
    refine wc_seq ?_
    refine wc_region ?_
    refine wv rfl (r_ldBS Try.underlying25 sz25 rfl (us := [(.int .i64 r298.1.n), s301.v, s302.v]) rfl hM (.tail _ (.head _)) rfl) ?_
    refine wv rfl (r_move rfl) ?_
    obtain ⟨r329, h330, hx⟩ := bind_some' hx
    refine w_call rfl rfl (hM.callO (l := []) fun X S oL hS hR hO => ct_impl_PastUndo _ X S r298.1 s301 s302 r317.1 s320 hS (seeA hO (.tail _ (.tail _ (.head _)))) (seeA hO (.tail _ (.tail _ (.tail _ (.head _))))) (seeA hO (.head _)) oL h330) ?_
    rintro _ w331 ⟨⟨s332, s333, s334⟩, rfl, hM⟩
    replace hM : St ⟨w, X, S⟩ [oC (cSl 1 fLDPart r329.1.undo) s332.v, oC (cSl 1 fLDPart r329.1.redo) s333.v, oC (cSl 3 fDPart r329.2.1) s334.v, oC (cSl 1 fI r317.1) s320.v, oBox b309 #[(.int .i64 r298.1.n), s301.v, s302.v] 25, oC (cSl 1 fLDPart r298.1.undo) s301.v, oC (cSl 1 fLDPart r298.1.redo) s302.v, oC (cSl 3 fDPart r289) s292.v, oBox b280 #[(.int .i64 r267.1.n), s270.v, s271.v] 25, oC (cSl 1 fLDPart r267.1.undo) s270.v, oC (cSl 1 fLDPart r267.1.redo) s271.v, oC (cSl 1 fI r267.2) s272.v] [rV s_code.v (cSl 1 fY code)] _ := hM
    refine wv rfl (r_move rfl) ?_
    refine wv rfl (r_extract rfl rfl) ?_
    refine wv rfl (r_extract rfl rfl) ?_
    refine wv rfl (r_extract rfl rfl) ?_
    refine w_ex rfl (x_alloc sz25 hM ?_); intro b343 w342 hR344 hM
    replace hM : St ⟨w, X, S⟩ [oBox b343 #[(.int .i64 0), (.slice none 0 0), (.slice none 0 0)] 25, oC (cSl 1 fLDPart r329.1.undo) s332.v, oC (cSl 1 fLDPart r329.1.redo) s333.v, oC (cSl 3 fDPart r329.2.1) s334.v, oC (cSl 1 fI r317.1) s320.v, oBox b309 #[(.int .i64 r298.1.n), s301.v, s302.v] 25, oC (cSl 1 fLDPart r298.1.undo) s301.v, oC (cSl 1 fLDPart r298.1.redo) s302.v, oC (cSl 3 fDPart r289) s292.v, oBox b280 #[(.int .i64 r267.1.n), s270.v, s271.v] 25, oC (cSl 1 fLDPart r267.1.undo) s270.v, oC (cSl 1 fLDPart r267.1.redo) s271.v, oC (cSl 1 fI r267.2) s272.v] [rV s_code.v (cSl 1 fY code)] _ := hM
    refine w_exu (x_stB #[(.int .i64 r329.1.n), s332.v, s333.v] sz25 rfl rfl rfl rfl rfl rfl hM ?_); intro w346 hM
    refine wv rfl (r_assign rfl) ?_
    refine wv rfl (r_assign rfl) ?_
    refine wl_nil ?_
    refine sq_n ?_
    refine wc_seq ?_
    refine wc_region ?_
    refine wv rfl (r_move rfl) ?_
    refine wv rfl (r_move rfl) ?_
    obtain ⟨r352, h353, hx⟩ := bind_some' hx
    refine w_call rfl rfl (hM.callO (l := []) fun X S oL hS hR hO => ct_impl_Apply _ X S r329.2.1 s334 r317.1 s320 hS (seeA hO (.tail _ (.tail _ (.tail _ (.head _))))) (seeA hO (.tail _ (.tail _ (.tail _ (.tail _ (.head _)))))) oL h353) ?_
    rintro _ w354 ⟨s355, rfl, hM⟩
    replace hM : St ⟨w, X, S⟩ [oC (cSl 1 fI r352.1) s355.v, oBox b343 #[(.int .i64 r329.1.n), s332.v, s333.v] 25, oC (cSl 1 fLDPart r329.1.undo) s332.v, oC (cSl 1 fLDPart r329.1.redo) s333.v, oC (cSl 3 fDPart r329.2.1) s334.v, oC (cSl 1 fI r317.1) s320.v, oBox b309 #[(.int .i64 r298.1.n), s301.v, s302.v] 25, oC (cSl 1 fLDPart r298.1.undo) s301.v, oC (cSl 1 fLDPart r298.1.redo) s302.v, oC (cSl 3 fDPart r289) s292.v, oBox b280 #[(.int .i64 r267.1.n), s270.v, s271.v] 25, oC (cSl 1 fLDPart r267.1.undo) s270.v, oC (cSl 1 fLDPart r267.1.redo) s271.v, oC (cSl 1 fI r267.2) s272.v] [rV s_code.v (cSl 1 fY code)] _ := hM
    refine wv rfl (r_move rfl) ?_
    refine wv rfl (r_extract rfl rfl) ?_
    refine wv rfl (r_extract rfl rfl) ?_
    refine wv rfl (r_assign rfl) ?_
    refine wv rfl (r_assign rfl) ?_
    refine wl_nil ?_
    refine sq_n ?_
    refine wc_seq ?_
    refine wc_region ?_
    refine wv rfl (r_ldBS Try.underlying25 sz25 rfl (us := [(.int .i64 r329.1.n), s332.v, s333.v]) rfl hM (.tail _ (.head _)) rfl) ?_
    refine wv rfl (r_move rfl) ?_
    obtain ⟨r364, h365, hx⟩ := bind_some' hx
    refine w_call rfl rfl (hM.callO (l := []) fun X S oL hS hR hO => ct_impl_PastRedo _ X S r329.1 s332 s333 r352.1 s355 hS (seeA hO (.tail _ (.tail _ (.head _)))) (seeA hO (.tail _ (.tail _ (.tail _ (.head _))))) (seeA hO (.head _)) oL h365) ?_
    rintro _ w366 ⟨⟨s367, s368, s369⟩, rfl, hM⟩
    replace hM : St ⟨w, X, S⟩ [oC (cSl 1 fLDPart r364.1.undo) s367.v, oC (cSl 1 fLDPart r364.1.redo) s368.v, oC (cSl 3 fDPart r364.2.1) s369.v, oC (cSl 1 fI r352.1) s355.v, oBox b343 #[(.int .i64 r329.1.n), s332.v, s333.v] 25, oC (cSl 1 fLDPart r329.1.undo) s332.v, oC (cSl 1 fLDPart r329.1.redo) s333.v, oC (cSl 3 fDPart r329.2.1) s334.v, oC (cSl 1 fI r317.1) s320.v, oBox b309 #[(.int .i64 r298.1.n), s301.v, s302.v] 25, oC (cSl 1 fLDPart r298.1.undo) s301.v, oC (cSl 1 fLDPart r298.1.redo) s302.v, oC (cSl 3 fDPart r289) s292.v, oBox b280 #[(.int .i64 r267.1.n), s270.v, s271.v] 25, oC (cSl 1 fLDPart r267.1.undo) s270.v, oC (cSl 1 fLDPart r267.1.redo) s271.v, oC (cSl 1 fI r267.2) s272.v] [rV s_code.v (cSl 1 fY code)] _ := hM
    refine wv rfl (r_move rfl) ?_
    refine wv rfl (r_extract rfl rfl) ?_
    refine wv rfl (r_extract rfl rfl) ?_
    refine wv rfl (r_extract rfl rfl) ?_
    refine w_ex rfl (x_alloc sz25 hM ?_); intro b378 w377 hR379 hM
    replace hM : St ⟨w, X, S⟩ [oBox b378 #[(.int .i64 0), (.slice none 0 0), (.slice none 0 0)] 25, oC (cSl 1 fLDPart r364.1.undo) s367.v, oC (cSl 1 fLDPart r364.1.redo) s368.v, oC (cSl 3 fDPart r364.2.1) s369.v, oC (cSl 1 fI r352.1) s355.v, oBox b343 #[(.int .i64 r329.1.n), s332.v, s333.v] 25, oC (cSl 1 fLDPart r329.1.undo) s332.v, oC (cSl 1 fLDPart r329.1.redo) s333.v, oC (cSl 3 fDPart r329.2.1) s334.v, oC (cSl 1 fI r317.1) s320.v, oBox b309 #[(.int .i64 r298.1.n), s301.v, s302.v] 25, oC (cSl 1 fLDPart r298.1.undo) s301.v, oC (cSl 1 fLDPart r298.1.redo) s302.v, oC (cSl 3 fDPart r289) s292.v, oBox b280 #[(.int .i64 r267.1.n), s270.v, s271.v] 25, oC (cSl 1 fLDPart r267.1.undo) s270.v, oC (cSl 1 fLDPart r267.1.redo) s271.v, oC (cSl 1 fI r267.2) s272.v] [rV s_code.v (cSl 1 fY code)] _ := hM
    refine w_exu (x_stB #[(.int .i64 r364.1.n), s367.v, s368.v] sz25 rfl rfl rfl rfl rfl rfl hM ?_); intro w381 hM
    refine wv rfl (r_assign rfl) ?_
    refine wv rfl (r_assign rfl) ?_
    refine wl_nil ?_
    refine sq_n ?_
    refine wc_seq ?_
    refine wc_region ?_
    refine wv rfl (r_move rfl) ?_
    refine wv rfl (r_move rfl) ?_
    obtain ⟨r387, h388, hx⟩ := bind_some' hx
    refine w_call rfl rfl (hM.callO (l := []) fun X S oL hS hR hO => ct_impl_Apply _ X S r364.2.1 s369 r352.1 s355 hS (seeA hO (.tail _ (.tail _ (.tail _ (.head _))))) (seeA hO (.tail _ (.tail _ (.tail _ (.tail _ (.head _)))))) oL h388) ?_
    rintro _ w389 ⟨s390, rfl, hM⟩
    replace hM : St ⟨w, X, S⟩ [oC (cSl 1 fI r387.1) s390.v, oBox b378 #[(.int .i64 r364.1.n), s367.v, s368.v] 25, oC (cSl 1 fLDPart r364.1.undo) s367.v, oC (cSl 1 fLDPart r364.1.redo) s368.v, oC (cSl 3 fDPart r364.2.1) s369.v, oC (cSl 1 fI r352.1) s355.v, oBox b343 #[(.int .i64 r329.1.n), s332.v, s333.v] 25, oC (cSl 1 fLDPart r329.1.undo) s332.v, oC (cSl 1 fLDPart r329.1.redo) s333.v, oC (cSl 3 fDPart r329.2.1) s334.v, oC (cSl 1 fI r317.1) s320.v, oBox b309 #[(.int .i64 r298.1.n), s301.v, s302.v] 25, oC (cSl 1 fLDPart r298.1.undo) s301.v, oC (cSl 1 fLDPart r298.1.redo) s302.v, oC (cSl 3 fDPart r289) s292.v, oBox b280 #[(.int .i64 r267.1.n), s270.v, s271.v] 25, oC (cSl 1 fLDPart r267.1.undo) s270.v, oC (cSl 1 fLDPart r267.1.redo) s271.v, oC (cSl 1 fI r267.2) s272.v] [rV s_code.v (cSl 1 fY code)] _ := hM
    refine wv rfl (r_move rfl) ?_
    refine wv rfl (r_extract rfl rfl) ?_
    refine wv rfl (r_extract rfl rfl) ?_
    refine wv rfl (r_assign rfl) ?_
    refine wv rfl (r_assign rfl) ?_
    refine wl_nil ?_
    refine sq_n ?_
    refine wc_seq ?_
    refine wc_region ?_
    refine wv rfl (r_move rfl) ?_
    refine wv rfl (r_move rfl) ?_
    obtain ⟨c399, hx, hx402⟩ := bind_some' hx
    refine wl_mid 2 (fun _ : Unit => [(74, (.bool c399)), (3, (.pointer (some ⟨b280, 0, none⟩))), (4, s272.v), (5, s292.v), (6, (.pointer (some ⟨b309, 0, none⟩))), (8, s320.v), (10, (.pointer (some ⟨b343, 0, none⟩))), (12, (.bool r329.2.2)), (13, s355.v), (14, (.bool r352.2)), (15, (.pointer (some ⟨b378, 0, none⟩))), (16, s369.v), (17, (.bool r364.2.2)), (18, s390.v), (19, (.bool r387.2))]) (fun _ w' => St ⟨w, X, S⟩ [oC (cSl 1 fI r387.1) s390.v, oBox b378 #[(.int .i64 r364.1.n), s367.v, s368.v] 25, oC (cSl 1 fLDPart r364.1.undo) s367.v, oC (cSl 1 fLDPart r364.1.redo) s368.v, oC (cSl 3 fDPart r364.2.1) s369.v, oC (cSl 1 fI r352.1) s355.v, oBox b343 #[(.int .i64 r329.1.n), s332.v, s333.v] 25, oC (cSl 1 fLDPart r329.1.undo) s332.v, oC (cSl 1 fLDPart r329.1.redo) s333.v, oC (cSl 3 fDPart r329.2.1) s334.v, oC (cSl 1 fI r317.1) s320.v, oBox b309 #[(.int .i64 r298.1.n), s301.v, s302.v] 25, oC (cSl 1 fLDPart r298.1.undo) s301.v, oC (cSl 1 fLDPart r298.1.redo) s302.v, oC (cSl 3 fDPart r289) s292.v, oBox b280 #[(.int .i64 r267.1.n), s270.v, s271.v] 25, oC (cSl 1 fLDPart r267.1.undo) s270.v, oC (cSl 1 fLDPart r267.1.redo) s271.v, oC (cSl 1 fI r267.2) s272.v] [rV s_code.v (cSl 1 fY code)] w') ?_ ?_
    · rcases Bool.eq_false_or_eq_true r298.2 with hg400 | hg400
      · replace hx := xif_t hg400 hx
        refine gv rfl hg400 rfl (r_move rfl) ?_
        refine wv rfl (p_t rfl hg400 rfl) ?_
        obtain rfl := Option.some.inj hx
        exact mid_nil () ⟨rfl, rfl, rfl, rfl, rfl, rfl, rfl, rfl, rfl, rfl, rfl, rfl, rfl, rfl, rfl, trivial⟩ hM
      · replace hx := xif_f hg400 hx
        refine gs rfl (isB_no hg400) rfl ?_
        refine wv rfl (p_f rfl hg400 rfl) ?_
        obtain rfl := Option.some.inj hx
        exact mid_nil () ⟨rfl, rfl, rfl, rfl, rfl, rfl, rfl, rfl, rfl, rfl, rfl, rfl, rfl, rfl, rfl, trivial⟩ hM
    rintro _ w404 hM
    replace hx := hx402
    refine wv rfl (r_move rfl) ?_
    obtain ⟨c406, hx, hx409⟩ := bind_some' hx
    refine wl_mid 2 (fun _ : Unit => [(77, (.bool c406)), (3, (.pointer (some ⟨b280, 0, none⟩))), (4, s272.v), (5, s292.v), (6, (.pointer (some ⟨b309, 0, none⟩))), (8, s320.v), (10, (.pointer (some ⟨b343, 0, none⟩))), (13, s355.v), (14, (.bool r352.2)), (15, (.pointer (some ⟨b378, 0, none⟩))), (16, s369.v), (17, (.bool r364.2.2)), (18, s390.v), (19, (.bool r387.2))]) (fun _ w' => St ⟨w, X, S⟩ [oC (cSl 1 fI r387.1) s390.v, oBox b378 #[(.int .i64 r364.1.n), s367.v, s368.v] 25, oC (cSl 1 fLDPart r364.1.undo) s367.v, oC (cSl 1 fLDPart r364.1.redo) s368.v, oC (cSl 3 fDPart r364.2.1) s369.v, oC (cSl 1 fI r352.1) s355.v, oBox b343 #[(.int .i64 r329.1.n), s332.v, s333.v] 25, oC (cSl 1 fLDPart r329.1.undo) s332.v, oC (cSl 1 fLDPart r329.1.redo) s333.v, oC (cSl 3 fDPart r329.2.1) s334.v, oC (cSl 1 fI r317.1) s320.v, oBox b309 #[(.int .i64 r298.1.n), s301.v, s302.v] 25, oC (cSl 1 fLDPart r298.1.undo) s301.v, oC (cSl 1 fLDPart r298.1.redo) s302.v, oC (cSl 3 fDPart r289) s292.v, oBox b280 #[(.int .i64 r267.1.n), s270.v, s271.v] 25, oC (cSl 1 fLDPart r267.1.undo) s270.v, oC (cSl 1 fLDPart r267.1.redo) s271.v, oC (cSl 1 fI r267.2) s272.v] [rV s_code.v (cSl 1 fY code)] w') ?_ ?_
    · rcases Bool.eq_false_or_eq_true c399 with hg407 | hg407
      · replace hx := xif_t hg407 hx
        refine gv rfl hg407 rfl (r_move rfl) ?_
        refine wv rfl (p_t rfl hg407 rfl) ?_
        obtain rfl := Option.some.inj hx
        exact mid_nil () ⟨rfl, rfl, rfl, rfl, rfl, rfl, rfl, rfl, rfl, rfl, rfl, rfl, rfl, rfl, trivial⟩ hM
      · replace hx := xif_f hg407 hx
        refine gs rfl (isB_no hg407) rfl ?_
        refine wv rfl (p_f rfl hg407 rfl) ?_
        obtain rfl := Option.some.inj hx
        exact mid_nil () ⟨rfl, rfl, rfl, rfl, rfl, rfl, rfl, rfl, rfl, rfl, rfl, rfl, rfl, rfl, trivial⟩ hM
    rintro _ w411 hM
    replace hx := hx409
    refine wv rfl (r_move rfl) ?_
    obtain ⟨c413, hx, hx416⟩ := bind_some' hx
    refine wl_mid 2 (fun _ : Unit => [(80, (.bool c413)), (3, (.pointer (some ⟨b280, 0, none⟩))), (4, s272.v), (5, s292.v), (6, (.pointer (some ⟨b309, 0, none⟩))), (8, s320.v), (10, (.pointer (some ⟨b343, 0, none⟩))), (13, s355.v), (15, (.pointer (some ⟨b378, 0, none⟩))), (16, s369.v), (17, (.bool r364.2.2)), (18, s390.v), (19, (.bool r387.2))]) (fun _ w' => St ⟨w, X, S⟩ [oC (cSl 1 fI r387.1) s390.v, oBox b378 #[(.int .i64 r364.1.n), s367.v, s368.v] 25, oC (cSl 1 fLDPart r364.1.undo) s367.v, oC (cSl 1 fLDPart r364.1.redo) s368.v, oC (cSl 3 fDPart r364.2.1) s369.v, oC (cSl 1 fI r352.1) s355.v, oBox b343 #[(.int .i64 r329.1.n), s332.v, s333.v] 25, oC (cSl 1 fLDPart r329.1.undo) s332.v, oC (cSl 1 fLDPart r329.1.redo) s333.v, oC (cSl 3 fDPart r329.2.1) s334.v, oC (cSl 1 fI r317.1) s320.v, oBox b309 #[(.int .i64 r298.1.n), s301.v, s302.v] 25, oC (cSl 1 fLDPart r298.1.undo) s301.v, oC (cSl 1 fLDPart r298.1.redo) s302.v, oC (cSl 3 fDPart r289) s292.v, oBox b280 #[(.int .i64 r267.1.n), s270.v, s271.v] 25, oC (cSl 1 fLDPart r267.1.undo) s270.v, oC (cSl 1 fLDPart r267.1.redo) s271.v, oC (cSl 1 fI r267.2) s272.v] [rV s_code.v (cSl 1 fY code)] w') ?_ ?_
    · rcases Bool.eq_false_or_eq_true c406 with hg414 | hg414
      · replace hx := xif_t hg414 hx
        refine gv rfl hg414 rfl (r_move rfl) ?_
        refine wv rfl (p_t rfl hg414 rfl) ?_
        obtain rfl := Option.some.inj hx
        exact mid_nil () ⟨rfl, rfl, rfl, rfl, rfl, rfl, rfl, rfl, rfl, rfl, rfl, rfl, rfl, trivial⟩ hM
      · replace hx := xif_f hg414 hx
        refine gs rfl (isB_no hg414) rfl ?_
        refine wv rfl (p_f rfl hg414 rfl) ?_
        obtain rfl := Option.some.inj hx
        exact mid_nil () ⟨rfl, rfl, rfl, rfl, rfl, rfl, rfl, rfl, rfl, rfl, rfl, rfl, rfl, trivial⟩ hM
    rintro _ w418 hM
    replace hx := hx416
    refine wv rfl (r_move rfl) ?_
    obtain ⟨c420, hx, hx423⟩ := bind_some' hx
    refine wl_mid 2 (fun _ : Unit => [(83, (.bool c420)), (3, (.pointer (some ⟨b280, 0, none⟩))), (4, s272.v), (5, s292.v), (6, (.pointer (some ⟨b309, 0, none⟩))), (8, s320.v), (10, (.pointer (some ⟨b343, 0, none⟩))), (13, s355.v), (15, (.pointer (some ⟨b378, 0, none⟩))), (16, s369.v), (18, s390.v), (19, (.bool r387.2))]) (fun _ w' => St ⟨w, X, S⟩ [oC (cSl 1 fI r387.1) s390.v, oBox b378 #[(.int .i64 r364.1.n), s367.v, s368.v] 25, oC (cSl 1 fLDPart r364.1.undo) s367.v, oC (cSl 1 fLDPart r364.1.redo) s368.v, oC (cSl 3 fDPart r364.2.1) s369.v, oC (cSl 1 fI r352.1) s355.v, oBox b343 #[(.int .i64 r329.1.n), s332.v, s333.v] 25, oC (cSl 1 fLDPart r329.1.undo) s332.v, oC (cSl 1 fLDPart r329.1.redo) s333.v, oC (cSl 3 fDPart r329.2.1) s334.v, oC (cSl 1 fI r317.1) s320.v, oBox b309 #[(.int .i64 r298.1.n), s301.v, s302.v] 25, oC (cSl 1 fLDPart r298.1.undo) s301.v, oC (cSl 1 fLDPart r298.1.redo) s302.v, oC (cSl 3 fDPart r289) s292.v, oBox b280 #[(.int .i64 r267.1.n), s270.v, s271.v] 25, oC (cSl 1 fLDPart r267.1.undo) s270.v, oC (cSl 1 fLDPart r267.1.redo) s271.v, oC (cSl 1 fI r267.2) s272.v] [rV s_code.v (cSl 1 fY code)] w') ?_ ?_
    · rcases Bool.eq_false_or_eq_true c413 with hg421 | hg421
      · replace hx := xif_t hg421 hx
        refine gv rfl hg421 rfl (r_move rfl) ?_
        refine wv rfl (p_t rfl hg421 rfl) ?_
        obtain rfl := Option.some.inj hx
        exact mid_nil () ⟨rfl, rfl, rfl, rfl, rfl, rfl, rfl, rfl, rfl, rfl, rfl, rfl, trivial⟩ hM
      · replace hx := xif_f hg421 hx
        refine gs rfl (isB_no hg421) rfl ?_
        refine wv rfl (p_f rfl hg421 rfl) ?_
        obtain rfl := Option.some.inj hx
        exact mid_nil () ⟨rfl, rfl, rfl, rfl, rfl, rfl, rfl, rfl, rfl, rfl, rfl, rfl, trivial⟩ hM
    rintro _ w425 hM
    replace hx := hx423
    refine wv rfl (r_move rfl) ?_
    obtain ⟨c427, hx, hx430⟩ := bind_some' hx
    refine wl_mid 2 (fun _ : Unit => [(86, (.bool c427)), (3, (.pointer (some ⟨b280, 0, none⟩))), (4, s272.v), (5, s292.v), (6, (.pointer (some ⟨b309, 0, none⟩))), (8, s320.v), (10, (.pointer (some ⟨b343, 0, none⟩))), (13, s355.v), (15, (.pointer (some ⟨b378, 0, none⟩))), (16, s369.v), (18, s390.v)]) (fun _ w' => St ⟨w, X, S⟩ [oC (cSl 1 fI r387.1) s390.v, oBox b378 #[(.int .i64 r364.1.n), s367.v, s368.v] 25, oC (cSl 1 fLDPart r364.1.undo) s367.v, oC (cSl 1 fLDPart r364.1.redo) s368.v, oC (cSl 3 fDPart r364.2.1) s369.v, oC (cSl 1 fI r352.1) s355.v, oBox b343 #[(.int .i64 r329.1.n), s332.v, s333.v] 25, oC (cSl 1 fLDPart r329.1.undo) s332.v, oC (cSl 1 fLDPart r329.1.redo) s333.v, oC (cSl 3 fDPart r329.2.1) s334.v, oC (cSl 1 fI r317.1) s320.v, oBox b309 #[(.int .i64 r298.1.n), s301.v, s302.v] 25, oC (cSl 1 fLDPart r298.1.undo) s301.v, oC (cSl 1 fLDPart r298.1.redo) s302.v, oC (cSl 3 fDPart r289) s292.v, oBox b280 #[(.int .i64 r267.1.n), s270.v, s271.v] 25, oC (cSl 1 fLDPart r267.1.undo) s270.v, oC (cSl 1 fLDPart r267.1.redo) s271.v, oC (cSl 1 fI r267.2) s272.v] [rV s_code.v (cSl 1 fY code)] w') ?_ ?_
    · rcases Bool.eq_false_or_eq_true c420 with hg428 | hg428
      · replace hx := xif_t hg428 hx
        refine gv rfl hg428 rfl (r_move rfl) ?_
        refine wv rfl (p_t rfl hg428 rfl) ?_
        obtain rfl := Option.some.inj hx
        exact mid_nil () ⟨rfl, rfl, rfl, rfl, rfl, rfl, rfl, rfl, rfl, rfl, rfl, trivial⟩ hM
      · replace hx := xif_f hg428 hx
        refine gs rfl (isB_no hg428) rfl ?_
        refine wv rfl (p_f rfl hg428 rfl) ?_
        obtain rfl := Option.some.inj hx
        exact mid_nil () ⟨rfl, rfl, rfl, rfl, rfl, rfl, rfl, rfl, rfl, rfl, rfl, trivial⟩ hM
    rintro _ w432 hM
    replace hx := hx430
    refine wv rfl (r_move rfl) ?_
    obtain ⟨c434, hx, hx442⟩ := bind_some' hx
    refine wl_mid 4 (fun _ : Unit => [(91, (.bool c434)), (3, (.pointer (some ⟨b280, 0, none⟩))), (5, s292.v), (6, (.pointer (some ⟨b309, 0, none⟩))), (8, s320.v), (10, (.pointer (some ⟨b343, 0, none⟩))), (15, (.pointer (some ⟨b378, 0, none⟩))), (16, s369.v), (18, s390.v)]) (fun _ w' => St ⟨w, X, S⟩ [oC (cSl 1 fI r387.1) s390.v, oBox b378 #[(.int .i64 r364.1.n), s367.v, s368.v] 25, oC (cSl 1 fLDPart r364.1.undo) s367.v, oC (cSl 1 fLDPart r364.1.redo) s368.v, oC (cSl 3 fDPart r364.2.1) s369.v, oC (cSl 1 fI r352.1) s355.v, oBox b343 #[(.int .i64 r329.1.n), s332.v, s333.v] 25, oC (cSl 1 fLDPart r329.1.undo) s332.v, oC (cSl 1 fLDPart r329.1.redo) s333.v, oC (cSl 3 fDPart r329.2.1) s334.v, oC (cSl 1 fI r317.1) s320.v, oBox b309 #[(.int .i64 r298.1.n), s301.v, s302.v] 25, oC (cSl 1 fLDPart r298.1.undo) s301.v, oC (cSl 1 fLDPart r298.1.redo) s302.v, oC (cSl 3 fDPart r289) s292.v, oBox b280 #[(.int .i64 r267.1.n), s270.v, s271.v] 25, oC (cSl 1 fLDPart r267.1.undo) s270.v, oC (cSl 1 fLDPart r267.1.redo) s271.v, oC (cSl 1 fI r267.2) s272.v] [rV s_code.v (cSl 1 fY code)] w') ?_ ?_
    · rcases Bool.eq_false_or_eq_true c427 with hg435 | hg435
      · replace hx := xif_t hg435 hx
        refine gv rfl hg435 rfl (r_move rfl) ?_
        refine gv rfl hg435 rfl (r_move rfl) ?_
        obtain ⟨r445, h446, hx⟩ := bind_some' hx
        refine gc rfl hg435 rfl rfl (hM.callV fun X S oL hS hR hO => ct_impl_SignsSame _ X S r352.1 s355 r267.2 s272 hS (seeA hO (.tail _ (.tail _ (.tail _ (.tail _ (.tail _ (.head _))))))) (seeA hO (.tail _ (.tail _ (.tail _ (.tail _ (.tail _ (.tail _ (.tail _ (.tail _ (.tail _ (.tail _ (.tail _ (.tail _ (.tail _ (.tail _ (.tail _ (.tail _ (.tail _ (.tail _ (.head _)))))))))))))))))))) oL h446) ?_
        rintro _ w447 ⟨rfl, hR448⟩
        have hM := hM.call hR448
        refine wv rfl (p_t rfl hg435 rfl) ?_
        obtain rfl := Option.some.inj hx
        exact mid_nil () ⟨rfl, rfl, rfl, rfl, rfl, rfl, rfl, rfl, rfl, trivial⟩ hM
      · replace hx := xif_f hg435 hx
        refine gs rfl (isB_no hg435) rfl ?_
        refine gs rfl (isB_no hg435) rfl ?_
        refine gs rfl (isB_no hg435) rfl ?_
        refine wv rfl (p_f rfl hg435 rfl) ?_
        obtain rfl := Option.some.inj hx
        exact mid_nil () ⟨rfl, rfl, rfl, rfl, rfl, rfl, rfl, rfl, rfl, trivial⟩ hM
    rintro _ w449 hM
    replace hx := hx442
    refine wv rfl (r_move rfl) ?_
    obtain ⟨c451, hx, hx459⟩ := bind_some' hx
    refine wl_mid 4 (fun _ : Unit => [(96, (.bool c451)), (3, (.pointer (some ⟨b280, 0, none⟩))), (5, s292.v), (6, (.pointer (some ⟨b309, 0, none⟩))), (10, (.pointer (some ⟨b343, 0, none⟩))), (15, (.pointer (some ⟨b378, 0, none⟩))), (16, s369.v)]) (fun _ w' => St ⟨w, X, S⟩ [oC (cSl 1 fI r387.1) s390.v, oBox b378 #[(.int .i64 r364.1.n), s367.v, s368.v] 25, oC (cSl 1 fLDPart r364.1.undo) s367.v, oC (cSl 1 fLDPart r364.1.redo) s368.v, oC (cSl 3 fDPart r364.2.1) s369.v, oC (cSl 1 fI r352.1) s355.v, oBox b343 #[(.int .i64 r329.1.n), s332.v, s333.v] 25, oC (cSl 1 fLDPart r329.1.undo) s332.v, oC (cSl 1 fLDPart r329.1.redo) s333.v, oC (cSl 3 fDPart r329.2.1) s334.v, oC (cSl 1 fI r317.1) s320.v, oBox b309 #[(.int .i64 r298.1.n), s301.v, s302.v] 25, oC (cSl 1 fLDPart r298.1.undo) s301.v, oC (cSl 1 fLDPart r298.1.redo) s302.v, oC (cSl 3 fDPart r289) s292.v, oBox b280 #[(.int .i64 r267.1.n), s270.v, s271.v] 25, oC (cSl 1 fLDPart r267.1.undo) s270.v, oC (cSl 1 fLDPart r267.1.redo) s271.v, oC (cSl 1 fI r267.2) s272.v] [rV s_code.v (cSl 1 fY code)] w') ?_ ?_
    · rcases Bool.eq_false_or_eq_true c434 with hg452 | hg452
      · replace hx := xif_t hg452 hx
        refine gv rfl hg452 rfl (r_move rfl) ?_
        refine gv rfl hg452 rfl (r_move rfl) ?_
        obtain ⟨r462, h463, hx⟩ := bind_some' hx
        refine gc rfl hg452 rfl rfl (hM.callV fun X S oL hS hR hO => ct_impl_SignsSame _ X S r387.1 s390 r317.1 s320 hS (seeA hO (.head _)) (seeA hO (.tail _ (.tail _ (.tail _ (.tail _ (.tail _ (.tail _ (.tail _ (.tail _ (.tail _ (.tail _ (.head _)))))))))))) oL h463) ?_
        rintro _ w464 ⟨rfl, hR465⟩
        have hM := hM.call hR465
        refine wv rfl (p_t rfl hg452 rfl) ?_
        obtain rfl := Option.some.inj hx
        exact mid_nil () ⟨rfl, rfl, rfl, rfl, rfl, rfl, rfl, trivial⟩ hM
      · replace hx := xif_f hg452 hx
        refine gs rfl (isB_no hg452) rfl ?_
        refine gs rfl (isB_no hg452) rfl ?_
        refine gs rfl (isB_no hg452) rfl ?_
        refine wv rfl (p_f rfl hg452 rfl) ?_
        obtain rfl := Option.some.inj hx
        exact mid_nil () ⟨rfl, rfl, rfl, rfl, rfl, rfl, rfl, trivial⟩ hM
    rintro _ w466 hM
    replace hx := hx459
    refine wv rfl (r_move rfl) ?_
    obtain ⟨c468, hx, hx475⟩ := bind_some' hx
    refine wl_mid 3 (fun _ : Unit => [(100, (.bool c468)), (5, s292.v), (6, (.pointer (some ⟨b309, 0, none⟩))), (10, (.pointer (some ⟨b343, 0, none⟩))), (15, (.pointer (some ⟨b378, 0, none⟩))), (16, s369.v)]) (fun _ w' => St ⟨w, X, S⟩ [oC (cSl 1 fI r387.1) s390.v, oBox b378 #[(.int .i64 r364.1.n), s367.v, s368.v] 25, oC (cSl 1 fLDPart r364.1.undo) s367.v, oC (cSl 1 fLDPart r364.1.redo) s368.v, oC (cSl 3 fDPart r364.2.1) s369.v, oC (cSl 1 fI r352.1) s355.v, oBox b343 #[(.int .i64 r329.1.n), s332.v, s333.v] 25, oC (cSl 1 fLDPart r329.1.undo) s332.v, oC (cSl 1 fLDPart r329.1.redo) s333.v, oC (cSl 3 fDPart r329.2.1) s334.v, oC (cSl 1 fI r317.1) s320.v, oBox b309 #[(.int .i64 r298.1.n), s301.v, s302.v] 25, oC (cSl 1 fLDPart r298.1.undo) s301.v, oC (cSl 1 fLDPart r298.1.redo) s302.v, oC (cSl 3 fDPart r289) s292.v, oBox b280 #[(.int .i64 r267.1.n), s270.v, s271.v] 25, oC (cSl 1 fLDPart r267.1.undo) s270.v, oC (cSl 1 fLDPart r267.1.redo) s271.v, oC (cSl 1 fI r267.2) s272.v] [rV s_code.v (cSl 1 fY code)] w') ?_ ?_
    · rcases Bool.eq_false_or_eq_true c451 with hg469 | hg469
      · replace hx := xif_t hg469 hx
        refine gv rfl hg469 rfl (r_ldBS Try.underlying25 sz25 rfl (us := [(.int .i64 r267.1.n), s270.v, s271.v]) rfl hM (.tail _ (.tail _ (.tail _ (.tail _ (.tail _ (.tail _ (.tail _ (.tail _ (.tail _ (.tail _ (.tail _ (.tail _ (.tail _ (.tail _ (.tail _ (.head _)))))))))))))))) rfl) ?_
        obtain ⟨r477, h478, hx⟩ := bind_some' hx
        refine gc rfl hg469 rfl rfl (hM.callV fun X S oL hS hR hO => ct_impl_PastOk _ X S r267.1 s270 s271 hS (seeA hO (.tail _ (.tail _ (.tail _ (.tail _ (.tail _ (.tail _ (.tail _ (.tail _ (.tail _ (.tail _ (.tail _ (.tail _ (.tail _ (.tail _ (.tail _ (.tail _ (.head _)))))))))))))))))) (seeA hO (.tail _ (.tail _ (.tail _ (.tail _ (.tail _ (.tail _ (.tail _ (.tail _ (.tail _ (.tail _ (.tail _ (.tail _ (.tail _ (.tail _ (.tail _ (.tail _ (.tail _ (.head _))))))))))))))))))) oL h478) ?_
        rintro _ w479 ⟨rfl, hR480⟩
        have hM := hM.call hR480
        refine wv rfl (p_t rfl hg469 rfl) ?_
        obtain rfl := Option.some.inj hx
        exact mid_nil () ⟨rfl, rfl, rfl, rfl, rfl, rfl, trivial⟩ hM
      · replace hx := xif_f hg469 hx
        refine gs rfl (isB_no hg469) rfl ?_
        refine gs rfl (isB_no hg469) rfl ?_
        refine wv rfl (p_f rfl hg469 rfl) ?_
        obtain rfl := Option.some.inj hx
        exact mid_nil () ⟨rfl, rfl, rfl, rfl, rfl, rfl, trivial⟩ hM
    rintro _ w481 hM
    replace hx := hx475
    refine wv rfl (r_move rfl) ?_
    obtain ⟨c483, hx, hx490⟩ := bind_some' hx
    refine wl_mid 3 (fun _ : Unit => [(104, (.bool c483)), (5, s292.v), (6, (.pointer (some ⟨b309, 0, none⟩))), (15, (.pointer (some ⟨b378, 0, none⟩))), (16, s369.v)]) (fun _ w' => St ⟨w, X, S⟩ [oC (cSl 1 fI r387.1) s390.v, oBox b378 #[(.int .i64 r364.1.n), s367.v, s368.v] 25, oC (cSl 1 fLDPart r364.1.undo) s367.v, oC (cSl 1 fLDPart r364.1.redo) s368.v, oC (cSl 3 fDPart r364.2.1) s369.v, oC (cSl 1 fI r352.1) s355.v, oBox b343 #[(.int .i64 r329.1.n), s332.v, s333.v] 25, oC (cSl 1 fLDPart r329.1.undo) s332.v, oC (cSl 1 fLDPart r329.1.redo) s333.v, oC (cSl 3 fDPart r329.2.1) s334.v, oC (cSl 1 fI r317.1) s320.v, oBox b309 #[(.int .i64 r298.1.n), s301.v, s302.v] 25, oC (cSl 1 fLDPart r298.1.undo) s301.v, oC (cSl 1 fLDPart r298.1.redo) s302.v, oC (cSl 3 fDPart r289) s292.v, oBox b280 #[(.int .i64 r267.1.n), s270.v, s271.v] 25, oC (cSl 1 fLDPart r267.1.undo) s270.v, oC (cSl 1 fLDPart r267.1.redo) s271.v, oC (cSl 1 fI r267.2) s272.v] [rV s_code.v (cSl 1 fY code)] w') ?_ ?_
    · rcases Bool.eq_false_or_eq_true c468 with hg484 | hg484
      · replace hx := xif_t hg484 hx
        refine gv rfl hg484 rfl (r_ldBS Try.underlying25 sz25 rfl (us := [(.int .i64 r329.1.n), s332.v, s333.v]) rfl hM (.tail _ (.tail _ (.tail _ (.tail _ (.tail _ (.tail _ (.head _))))))) rfl) ?_
        obtain ⟨r492, h493, hx⟩ := bind_some' hx
        refine gc rfl hg484 rfl rfl (hM.callV fun X S oL hS hR hO => ct_impl_PastOk _ X S r329.1 s332 s333 hS (seeA hO (.tail _ (.tail _ (.tail _ (.tail _ (.tail _ (.tail _ (.tail _ (.head _))))))))) (seeA hO (.tail _ (.tail _ (.tail _ (.tail _ (.tail _ (.tail _ (.tail _ (.tail _ (.head _)))))))))) oL h493) ?_
        rintro _ w494 ⟨rfl, hR495⟩
        have hM := hM.call hR495
        refine wv rfl (p_t rfl hg484 rfl) ?_
        obtain rfl := Option.some.inj hx
        exact mid_nil () ⟨rfl, rfl, rfl, rfl, rfl, trivial⟩ hM
      · replace hx := xif_f hg484 hx
        refine gs rfl (isB_no hg484) rfl ?_
        refine gs rfl (isB_no hg484) rfl ?_
        refine wv rfl (p_f rfl hg484 rfl) ?_
        obtain rfl := Option.some.inj hx
        exact mid_nil () ⟨rfl, rfl, rfl, rfl, rfl, trivial⟩ hM
    rintro _ w496 hM
    replace hx := hx490
    refine wv rfl (r_move rfl) ?_
    obtain ⟨c498, hx, hx506⟩ := bind_some' hx
    refine wl_mid 4 (fun _ : Unit => [(109, (.bool c498)), (5, s292.v), (16, s369.v)]) (fun _ w' => St ⟨w, X, S⟩ [oC (cSl 1 fI r387.1) s390.v, oBox b378 #[(.int .i64 r364.1.n), s367.v, s368.v] 25, oC (cSl 1 fLDPart r364.1.undo) s367.v, oC (cSl 1 fLDPart r364.1.redo) s368.v, oC (cSl 3 fDPart r364.2.1) s369.v, oC (cSl 1 fI r352.1) s355.v, oBox b343 #[(.int .i64 r329.1.n), s332.v, s333.v] 25, oC (cSl 1 fLDPart r329.1.undo) s332.v, oC (cSl 1 fLDPart r329.1.redo) s333.v, oC (cSl 3 fDPart r329.2.1) s334.v, oC (cSl 1 fI r317.1) s320.v, oBox b309 #[(.int .i64 r298.1.n), s301.v, s302.v] 25, oC (cSl 1 fLDPart r298.1.undo) s301.v, oC (cSl 1 fLDPart r298.1.redo) s302.v, oC (cSl 3 fDPart r289) s292.v, oBox b280 #[(.int .i64 r267.1.n), s270.v, s271.v] 25, oC (cSl 1 fLDPart r267.1.undo) s270.v, oC (cSl 1 fLDPart r267.1.redo) s271.v, oC (cSl 1 fI r267.2) s272.v] [rV s_code.v (cSl 1 fY code)] w') ?_ ?_
    · rcases Bool.eq_false_or_eq_true c483 with hg499 | hg499
      · replace hx := xif_t hg499 hx
        refine gv rfl hg499 rfl (r_ldBS Try.underlying25 sz25 rfl (us := [(.int .i64 r364.1.n), s367.v, s368.v]) rfl hM (.tail _ (.head _)) rfl) ?_
        refine gv rfl hg499 rfl (r_ldBS Try.underlying25 sz25 rfl (us := [(.int .i64 r298.1.n), s301.v, s302.v]) rfl hM (.tail _ (.tail _ (.tail _ (.tail _ (.tail _ (.tail _ (.tail _ (.tail _ (.tail _ (.tail _ (.tail _ (.head _)))))))))))) rfl) ?_
        obtain ⟨r509, h510, hx⟩ := bind_some' hx
        refine gc rfl hg499 rfl rfl (hM.callV fun X S oL hS hR hO => ct_impl_PastSame _ X S r364.1 s367 s368 r298.1 s301 s302 hS (seeA hO (.tail _ (.tail _ (.head _)))) (seeA hO (.tail _ (.tail _ (.tail _ (.head _))))) (seeA hO (.tail _ (.tail _ (.tail _ (.tail _ (.tail _ (.tail _ (.tail _ (.tail _ (.tail _ (.tail _ (.tail _ (.tail _ (.head _)))))))))))))) (seeA hO (.tail _ (.tail _ (.tail _ (.tail _ (.tail _ (.tail _ (.tail _ (.tail _ (.tail _ (.tail _ (.tail _ (.tail _ (.tail _ (.head _))))))))))))))) oL h510) ?_
        rintro _ w511 ⟨rfl, hR512⟩
        have hM := hM.call hR512
        refine wv rfl (p_t rfl hg499 rfl) ?_
        obtain rfl := Option.some.inj hx
        exact mid_nil () ⟨rfl, rfl, rfl, trivial⟩ hM
      · replace hx := xif_f hg499 hx
        refine gs rfl (isB_no hg499) rfl ?_
        refine gs rfl (isB_no hg499) rfl ?_
        refine gs rfl (isB_no hg499) rfl ?_
        refine wv rfl (p_f rfl hg499 rfl) ?_
        obtain rfl := Option.some.inj hx
        exact mid_nil () ⟨rfl, rfl, rfl, trivial⟩ hM
    rintro _ w513 hM
    replace hx := hx506
    refine wv rfl (r_move rfl) ?_
    obtain ⟨c515, hx, hx528⟩ := bind_some' hx
    refine wl_mid 5 (fun _ : Unit => [(115, (.bool c515))]) (fun _ w' => St ⟨w, X, S⟩ [oC (cSl 1 fI r387.1) s390.v, oBox b378 #[(.int .i64 r364.1.n), s367.v, s368.v] 25, oC (cSl 1 fLDPart r364.1.undo) s367.v, oC (cSl 1 fLDPart r364.1.redo) s368.v, oC (cSl 3 fDPart r364.2.1) s369.v, oC (cSl 1 fI r352.1) s355.v, oBox b343 #[(.int .i64 r329.1.n), s332.v, s333.v] 25, oC (cSl 1 fLDPart r329.1.undo) s332.v, oC (cSl 1 fLDPart r329.1.redo) s333.v, oC (cSl 3 fDPart r329.2.1) s334.v, oC (cSl 1 fI r317.1) s320.v, oBox b309 #[(.int .i64 r298.1.n), s301.v, s302.v] 25, oC (cSl 1 fLDPart r298.1.undo) s301.v, oC (cSl 1 fLDPart r298.1.redo) s302.v, oC (cSl 3 fDPart r289) s292.v, oBox b280 #[(.int .i64 r267.1.n), s270.v, s271.v] 25, oC (cSl 1 fLDPart r267.1.undo) s270.v, oC (cSl 1 fLDPart r267.1.redo) s271.v, oC (cSl 1 fI r267.2) s272.v] [rV s_code.v (cSl 1 fY code)] w') ?_ ?_
    · rcases Bool.eq_false_or_eq_true c498 with hg516 | hg516
      · replace hx := xif_t hg516 hx
        refine gv rfl hg516 rfl (r_move rfl) ?_
        refine gv rfl hg516 rfl (r_move rfl) ?_
        obtain ⟨r531, h532, hx⟩ := bind_some' hx
        refine gc rfl hg516 rfl rfl (hM.callO (l := []) fun X S oL hS hR hO => ct_impl_OpNorm _ X S r289 s292 hS (seeA hO (.tail _ (.tail _ (.tail _ (.tail _ (.tail _ (.tail _ (.tail _ (.tail _ (.tail _ (.tail _ (.tail _ (.tail _ (.tail _ (.tail _ (.head _)))))))))))))))) oL h532) ?_
        rintro _ w533 ⟨s534, rfl, hM⟩
        replace hM : St ⟨w, X, S⟩ [oC (cSl 3 fDPart r531) s534.v, oC (cSl 1 fI r387.1) s390.v, oBox b378 #[(.int .i64 r364.1.n), s367.v, s368.v] 25, oC (cSl 1 fLDPart r364.1.undo) s367.v, oC (cSl 1 fLDPart r364.1.redo) s368.v, oC (cSl 3 fDPart r364.2.1) s369.v, oC (cSl 1 fI r352.1) s355.v, oBox b343 #[(.int .i64 r329.1.n), s332.v, s333.v] 25, oC (cSl 1 fLDPart r329.1.undo) s332.v, oC (cSl 1 fLDPart r329.1.redo) s333.v, oC (cSl 3 fDPart r329.2.1) s334.v, oC (cSl 1 fI r317.1) s320.v, oBox b309 #[(.int .i64 r298.1.n), s301.v, s302.v] 25, oC (cSl 1 fLDPart r298.1.undo) s301.v, oC (cSl 1 fLDPart r298.1.redo) s302.v, oC (cSl 3 fDPart r289) s292.v, oBox b280 #[(.int .i64 r267.1.n), s270.v, s271.v] 25, oC (cSl 1 fLDPart r267.1.undo) s270.v, oC (cSl 1 fLDPart r267.1.redo) s271.v, oC (cSl 1 fI r267.2) s272.v] [rV s_code.v (cSl 1 fY code)] _ := hM
        obtain ⟨r536, h537, hx⟩ := bind_some' hx
        refine gc rfl hg516 rfl rfl (hM.callV fun X S oL hS hR hO => ct_impl_OpSame _ X S r364.2.1 s369 r531 s534 hS (seeA hO (.tail _ (.tail _ (.tail _ (.tail _ (.tail _ (.head _))))))) (seeA hO (.head _)) oL h537) ?_
        rintro _ w538 ⟨rfl, hR539⟩
        have hM := hM.call hR539
        refine wv rfl (p_t rfl hg516 rfl) ?_
        obtain rfl := Option.some.inj hx
        replace hM := hM.drop
        exact mid_nil () ⟨rfl, trivial⟩ hM
      · replace hx := xif_f hg516 hx
        refine gs rfl (isB_no hg516) rfl ?_
        refine gs rfl (isB_no hg516) rfl ?_
        refine gs rfl (isB_no hg516) rfl ?_
        refine gs rfl (isB_no hg516) rfl ?_
        refine wv rfl (p_f rfl hg516 rfl) ?_
        obtain rfl := Option.some.inj hx
        exact mid_nil () ⟨rfl, trivial⟩ hM
    rintro _ w540 hM
    replace hx := hx528
    refine wv rfl (r_assign rfl) ?_
    refine wl_nil ?_
    refine sq_n ?_
    refine wc_ret ?_
    obtain rfl := Option.some.inj hx
    refine fin_ret [(.bool c515)] ⟨rfl, trivial⟩ ?_
    replace hM := hM.t0
    have hM := hM.fewer rsN
    exact ⟨(), rfl, hM.gives⟩

end Go.Proofs.Ythfkcpdechjmnaa
