/- Walks of functions of this program (printed by a program of ours, by the rules of the layer). No condition. -/
import Derived.Test.YthfkcpdechjmnaaGW
import Derived.Test.YthfkcpdechjmnaaGN
import Derived.Test.YthfkcpdechjmnaaG4
import Derived.Test.YthfkcpdechjmnaaNr
namespace Go.Proofs.Ythfkcpdechjmnaa
open Go.RowKit

noncomputable def x_laws_FnMerge (code : List UInt8) : Option Bool :=
  bif decide ((1048576 : Int) < (code.length : Int)) then (some true) else (Option.bind (x_spec_MakeText code 1) fun r7 => Option.bind (x_spec_MakeText code 2) fun r14 => Option.bind (x_impl_Merge r7 r14 r7) fun r23 => Option.bind (x_impl_Merge r7 r7 r14) fun r36 => Option.bind (bif !r23.2 then (some true) else (some (!r36.2))) fun c49 => Option.bind (bif c49 then (some true) else (Option.bind (x_impl_SignsSame r23.1 r14) fun r67 => some (!r67))) fun c56 => Option.bind (bif c56 then (some true) else (Option.bind (x_impl_SignsSame r36.1 r14) fun r84 => some (!r84))) fun c73 => bif c73 then (some false) else (xg (0 + r7.length ≤ 1099511627776) <| xg (([] ++ r7).length < 1099511627776) <| Option.bind (x_impl_Diff r7 r14) fun r106 => Option.bind (x_impl_Diff r7 (([] ++ r7) ++ [90])) fun r118 => Option.bind (x_impl_Merge r7 r14 (([] ++ r7) ++ [90])) fun r131 => Option.bind (x_impl_Merge r7 (([] ++ r7) ++ [90]) r14) fun r144 => Option.bind (bif !r106.2 then (some true) else (some (!r118.2))) fun c157 => Option.bind (bif c157 then (some true) else (some (!r131.2))) fun c164 => Option.bind (bif c164 then (some true) else (some (!r144.2))) fun c171 => Option.bind (bif c171 then (some true) else (Option.bind (x_impl_Touches r106.1) fun r193 => xg (inI ((r7.length : Int) + 1)) <| some (!decide ((r193.length : Int) = ((r7.length : Int) + 1))))) fun c178 => bif c178 then (some false) else (Option.bind (x_impl_Apart r106.1 r118.1) fun r207 => Option.bind (bif !r207 then (some true) else (Option.bind (x_impl_Clashes r106.1 r118.1) fun r239 => Option.bind (bif decide (r239 = 0) then (Option.bind (x_impl_SignsSame r131.1 r144.1) fun r255 => some r255) else (some false)) fun c245 => some c245)) fun c213 => some c213)))
theorem ct_laws_FnMerge (w : World) (X S : Bs) (code : List UInt8) (s_code : Sv) (hS : ∀ b, S b → b < w.heap.size ∧ ¬ X b) (a_code_0 : (cSl 1 fY code).rd S w s_code.v) (oL : Sep [] X w) {r : Bool} (hx : x_laws_FnMerge code = some r) :
    Ret Try.prog 5 [s_code.v] w (fun u w' => ∃ _ : Unit, u = (.bool r) ∧ Gives X S w [] [] w') := by
  unfold x_laws_FnMerge at hx
  refine enter Try.func5 rfl Try.ntmps5 (by kernel_rfl) rfl ?_
  have hM := St.enter oL hS
  have hM := hM.addE (r := rV s_code.v (cSl 1 fY code)) a_code_0
  refine wc_seq ?_
  refine wc_region ?_
  refine wv rfl (r_assign rfl) ?_
  refine wl_nil ?_
  refine sq_n ?_
  refine wc_seq ?_
  refine wc_seq ?_
  refine wc_region ?_
  refine wv rfl (r_move rfl) ?_
  refine wv rfl (r_lenC Try.underlying22 rfl (hM.seeR (.head _))) ?_
  refine wv rfl (r_gtr rfl rfl) ?_
  refine wl_nil ?_
  refine sq_n ?_
  refine wc_cond rfl (fun hc264 => ?_) (fun hc264 => ?_)
  · replace hx := xif_t hc264 hx
    refine wc_seq ?_
    refine wc_region ?_
    refine wv rfl (r_assign rfl) ?_
    refine wl_nil ?_
    refine sq_n ?_
    refine wc_ret ?_
    refine sq_ret ?_
    obtain rfl := Option.some.inj hx
    refine fin_ret [(.bool true)] ⟨rfl, trivial⟩ ?_
    replace hM := hM.t0
    have hM := hM.fewer rsN
    exact ⟨(), rfl, hM.gives⟩
  · replace hx := xif_f hc264 hx
    refine wc_skip ?_
    refine sq_n ?_
    refine wc_seq ?_
    refine wc_region ?_
    refine wv rfl (r_move rfl) ?_
    obtain ⟨r267, h268, hx⟩ := bind_some' hx
    refine w_call rfl rfl (hM.callO (l := []) fun X S oL hS hR hO => ct_spec_MakeText _ X S code s_code (1 : Int) hS (hR _ (.head _)) oL h268) ?_
    rintro _ w269 ⟨s270, rfl, hM⟩
    replace hM : St ⟨w, X, S⟩ [oC (cSl 1 fI r267) s270.v] [rV s_code.v (cSl 1 fY code)] _ := hM
    refine wv rfl (r_assign rfl) ?_
    refine wl_nil ?_
    refine sq_n ?_
    refine wc_seq ?_
    refine wc_region ?_
    refine wv rfl (r_move rfl) ?_
    obtain ⟨r274, h275, hx⟩ := bind_some' hx
    refine w_call rfl rfl (hM.callO (l := []) fun X S oL hS hR hO => ct_spec_MakeText _ X S code s_code (2 : Int) hS (hR _ (.head _)) oL h275) ?_
    rintro _ w276 ⟨s277, rfl, hM⟩
    replace hM : St ⟨w, X, S⟩ [oC (cSl 1 fI r274) s277.v, oC (cSl 1 fI r267) s270.v] [rV s_code.v (cSl 1 fY code)] _ := hM
    refine wv rfl (r_assign rfl) ?_
    refine wl_nil ?_
    refine sq_n ?_
    refine wc_seq ?_
    refine wc_region ?_
    refine wv rfl (r_move rfl) ?_
    refine wv rfl (r_move rfl) ?_
    refine wv rfl (r_move rfl) ?_
    obtain ⟨r283, h284, hx⟩ := bind_some' hx
    refine w_call rfl rfl (hM.callO (l := []) fun X S oL hS hR hO => ct_impl_Merge _ X S r267 s270 r274 s277 r267 s270 hS (seeA hO (.tail _ (.head _))) (seeA hO (.head _)) (seeA hO (.tail _ (.head _))) oL h284) ?_
    rintro _ w285 ⟨s286, rfl, hM⟩
    replace hM : St ⟨w, X, S⟩ [oC (cSl 1 fI r283.1) s286.v, oC (cSl 1 fI r274) s277.v, oC (cSl 1 fI r267) s270.v] [rV s_code.v (cSl 1 fY code)] _ := hM
    refine wv rfl (r_move rfl) ?_
    refine wv rfl (r_extract rfl rfl) ?_
    refine wv rfl (r_extract rfl rfl) ?_
    refine wv rfl (r_assign rfl) ?_
    refine wv rfl (r_assign rfl) ?_
    refine wl_nil ?_
    refine sq_n ?_
    refine wc_seq ?_
    refine wc_region ?_
    refine wv rfl (r_move rfl) ?_
    refine wv rfl (r_move rfl) ?_
    refine wv rfl (r_move rfl) ?_
    obtain ⟨r296, h297, hx⟩ := bind_some' hx
    refine w_call rfl rfl (hM.callO (l := []) fun X S oL hS hR hO => ct_impl_Merge _ X S r267 s270 r267 s270 r274 s277 hS (seeA hO (.tail _ (.tail _ (.head _)))) (seeA hO (.tail _ (.tail _ (.head _)))) (seeA hO (.tail _ (.head _))) oL h297) ?_
    rintro _ w298 ⟨s299, rfl, hM⟩
    replace hM : St ⟨w, X, S⟩ [oC (cSl 1 fI r296.1) s299.v, oC (cSl 1 fI r283.1) s286.v, oC (cSl 1 fI r274) s277.v, oC (cSl 1 fI r267) s270.v] [rV s_code.v (cSl 1 fY code)] _ := hM
    refine wv rfl (r_move rfl) ?_
    refine wv rfl (r_extract rfl rfl) ?_
    refine wv rfl (r_extract rfl rfl) ?_
    refine wv rfl (r_assign rfl) ?_
    refine wv rfl (r_assign rfl) ?_
    refine wl_nil ?_
    refine sq_n ?_
    refine wc_seq ?_
    refine wc_seq ?_
    refine wc_region ?_
    refine wv rfl (r_move rfl) ?_
    refine wv rfl (r_not rfl) ?_
    refine wv rfl (r_move rfl) ?_
    obtain ⟨c309, hx, hx313⟩ := bind_some' hx
    refine wl_mid 3 (fun _ : Unit => [(44, (.bool c309)), (3, s270.v), (4, s277.v), (5, s286.v), (7, s299.v)]) (fun _ w' => St ⟨w, X, S⟩ [oC (cSl 1 fI r296.1) s299.v, oC (cSl 1 fI r283.1) s286.v, oC (cSl 1 fI r274) s277.v, oC (cSl 1 fI r267) s270.v] [rV s_code.v (cSl 1 fY code)] w') ?_ ?_
    · rcases Bool.eq_false_or_eq_true (!r283.2) with hg310 | hg310
      · replace hx := xif_t hg310 hx
        refine gs rfl (isB_no hg310) rfl ?_
        refine gs rfl (isB_no hg310) rfl ?_
        refine wv rfl (p_t rfl hg310 rfl) ?_
        obtain rfl := Option.some.inj hx
        exact mid_nil () ⟨rfl, rfl, rfl, rfl, rfl, trivial⟩ hM
      · replace hx := xif_f hg310 hx
        refine gv rfl hg310 rfl (r_move rfl) ?_
        refine gv rfl hg310 rfl (r_not rfl) ?_
        refine wv rfl (p_f rfl hg310 rfl) ?_
        obtain rfl := Option.some.inj hx
        exact mid_nil () ⟨rfl, rfl, rfl, rfl, rfl, trivial⟩ hM
    rintro _ w316 hM
    replace hx := hx313
    refine wv rfl (r_move rfl) ?_
    obtain ⟨c318, hx, hx327⟩ := bind_some' hx
    refine wl_mid 5 (fun _ : Unit => [(50, (.bool c318)), (3, s270.v), (4, s277.v), (7, s299.v)]) (fun _ w' => St ⟨w, X, S⟩ [oC (cSl 1 fI r296.1) s299.v, oC (cSl 1 fI r283.1) s286.v, oC (cSl 1 fI r274) s277.v, oC (cSl 1 fI r267) s270.v] [rV s_code.v (cSl 1 fY code)] w') ?_ ?_
    · rcases Bool.eq_false_or_eq_true c309 with hg319 | hg319
      · replace hx := xif_t hg319 hx
        refine gs rfl (isB_no hg319) rfl ?_
        refine gs rfl (isB_no hg319) rfl ?_
        refine gs rfl (isB_no hg319) rfl ?_
        refine gs rfl (isB_no hg319) rfl ?_
        refine wv rfl (p_t rfl hg319 rfl) ?_
        obtain rfl := Option.some.inj hx
        exact mid_nil () ⟨rfl, rfl, rfl, rfl, trivial⟩ hM
      · replace hx := xif_f hg319 hx
        refine gv rfl hg319 rfl (r_move rfl) ?_
        refine gv rfl hg319 rfl (r_move rfl) ?_
        obtain ⟨r330, h331, hx⟩ := bind_some' hx
        refine gc rfl hg319 rfl rfl (hM.callV fun X S oL hS hR hO => ct_impl_SignsSame _ X S r283.1 s286 r274 s277 hS (seeA hO (.tail _ (.head _))) (seeA hO (.tail _ (.tail _ (.head _)))) oL h331) ?_
        rintro _ w332 ⟨rfl, hR333⟩
        have hM := hM.call hR333
        refine gv rfl hg319 rfl (r_not rfl) ?_
        refine wv rfl (p_f rfl hg319 rfl) ?_
        obtain rfl := Option.some.inj hx
        exact mid_nil () ⟨rfl, rfl, rfl, rfl, trivial⟩ hM
    rintro _ w335 hM
    replace hx := hx327
    refine wv rfl (r_move rfl) ?_
    obtain ⟨c337, hx, hx346⟩ := bind_some' hx
    refine wl_mid 5 (fun _ : Unit => [(56, (.bool c337)), (3, s270.v), (4, s277.v)]) (fun _ w' => St ⟨w, X, S⟩ [oC (cSl 1 fI r296.1) s299.v, oC (cSl 1 fI r283.1) s286.v, oC (cSl 1 fI r274) s277.v, oC (cSl 1 fI r267) s270.v] [rV s_code.v (cSl 1 fY code)] w') ?_ ?_
    · rcases Bool.eq_false_or_eq_true c318 with hg338 | hg338
      · replace hx := xif_t hg338 hx
        refine gs rfl (isB_no hg338) rfl ?_
        refine gs rfl (isB_no hg338) rfl ?_
        refine gs rfl (isB_no hg338) rfl ?_
        refine gs rfl (isB_no hg338) rfl ?_
        refine wv rfl (p_t rfl hg338 rfl) ?_
        obtain rfl := Option.some.inj hx
        exact mid_nil () ⟨rfl, rfl, rfl, trivial⟩ hM
      · replace hx := xif_f hg338 hx
        refine gv rfl hg338 rfl (r_move rfl) ?_
        refine gv rfl hg338 rfl (r_move rfl) ?_
        obtain ⟨r349, h350, hx⟩ := bind_some' hx
        refine gc rfl hg338 rfl rfl (hM.callV fun X S oL hS hR hO => ct_impl_SignsSame _ X S r296.1 s299 r274 s277 hS (seeA hO (.head _)) (seeA hO (.tail _ (.tail _ (.head _)))) oL h350) ?_
        rintro _ w351 ⟨rfl, hR352⟩
        have hM := hM.call hR352
        refine gv rfl hg338 rfl (r_not rfl) ?_
        refine wv rfl (p_f rfl hg338 rfl) ?_
        obtain rfl := Option.some.inj hx
        exact mid_nil () ⟨rfl, rfl, rfl, trivial⟩ hM
    rintro _ w354 hM
    replace hx := hx346
    refine wl_nil ?_
    refine sq_n ?_
    refine wc_cond rfl (fun hc355 => ?_) (fun hc355 => ?_)
    · replace hx := xif_t hc355 hx
      refine wc_seq ?_
      refine wc_region ?_
      refine wv rfl (r_assign rfl) ?_
      refine wl_nil ?_
      refine sq_n ?_
      refine wc_ret ?_
      refine sq_ret ?_
      obtain rfl := Option.some.inj hx
      refine fin_ret [(.bool false)] ⟨rfl, trivial⟩ ?_
      replace hM := hM.t0
      have hM := hM.fewer rsN
      exact ⟨(), rfl, hM.gives⟩
    · replace hx := xif_f hc355 hx
      refine wc_skip ?_
      refine sq_n ?_
      refine wc_seq ?_
      refine wc_region ?_
      refine w_ex rfl (x_empty (f := fI) Try.underlying26 sz3 (fun _ => rfl) hM ?_); intro s358 w357 hR359 hM
      refine wv rfl (r_move rfl) ?_
      obtain ⟨hg364, hx⟩ := xg_some hx
      refine w_ex rfl (x_append Try.underlying26 sz3 rfl rfl (hM.seeO (.tail _ (.tail _ (.tail _ (.tail _ (.head _)))))) flI hM hg364 rfl ?_); intro s363 w362 hM
      obtain ⟨hg369, hx⟩ := xg_some hx
      refine w_push (f := fI) 90 rfl rfl Try.underlying26 sz3 rfl rfl rfl rfl (fun _ => rfl) hM (fun _ => zP (pV _ rfl) zN) rfl hg369 rfl ?_; intro u367 s368 w366 hM
      refine wv rfl (r_assign rfl) ?_
      refine wl_nil ?_
      refine sq_n ?_
      refine wc_seq ?_
      refine wc_region ?_
      refine wv rfl (r_move rfl) ?_
      refine wv rfl (r_move rfl) ?_
      obtain ⟨r373, h374, hx⟩ := bind_some' hx
      refine w_call rfl rfl (hM.callO (l := []) fun X S oL hS hR hO => ct_impl_Diff _ X S r267 s270 r274 s277 hS (seeA hO (.tail _ (.tail _ (.tail _ (.tail _ (.head _)))))) (seeA hO (.tail _ (.tail _ (.tail _ (.head _))))) oL h374) ?_
      rintro _ w375 ⟨s376, rfl, hM⟩
      replace hM : St ⟨w, X, S⟩ [oC (cSl 3 fDPart r373.1) s376.v, oC (cSl 1 fI (([] ++ r267) ++ [90])) s368.v, oC (cSl 1 fI r296.1) s299.v, oC (cSl 1 fI r283.1) s286.v, oC (cSl 1 fI r274) s277.v, oC (cSl 1 fI r267) s270.v] [rV s_code.v (cSl 1 fY code)] _ := hM
      refine wv rfl (r_move rfl) ?_
      refine wv rfl (r_extract rfl rfl) ?_
      refine wv rfl (r_extract rfl rfl) ?_
      refine wv rfl (r_assign rfl) ?_
      refine wv rfl (r_assign rfl) ?_
      refine wl_nil ?_
      refine sq_n ?_
      refine wc_seq ?_
      refine wc_region ?_
      refine wv rfl (r_move rfl) ?_
      refine wv rfl (r_move rfl) ?_
      obtain ⟨r385, h386, hx⟩ := bind_some' hx
      refine w_call rfl rfl (hM.callO (l := []) fun X S oL hS hR hO => ct_impl_Diff _ X S r267 s270 (([] ++ r267) ++ [90]) s368 hS (seeA hO (.tail _ (.tail _ (.tail _ (.tail _ (.tail _ (.head _))))))) (seeA hO (.tail _ (.head _))) oL h386) ?_
      rintro _ w387 ⟨s388, rfl, hM⟩
      replace hM : St ⟨w, X, S⟩ [oC (cSl 3 fDPart r385.1) s388.v, oC (cSl 3 fDPart r373.1) s376.v, oC (cSl 1 fI (([] ++ r267) ++ [90])) s368.v, oC (cSl 1 fI r296.1) s299.v, oC (cSl 1 fI r283.1) s286.v, oC (cSl 1 fI r274) s277.v, oC (cSl 1 fI r267) s270.v] [rV s_code.v (cSl 1 fY code)] _ := hM
      refine wv rfl (r_move rfl) ?_
      refine wv rfl (r_extract rfl rfl) ?_
      refine wv rfl (r_extract rfl rfl) ?_
      refine wv rfl (r_assign rfl) ?_
      refine wv rfl (r_assign rfl) ?_
      refine wl_nil ?_
      refine sq_n ?_
      refine wc_seq ?_
      refine wc_region ?_
      refine wv rfl (r_move rfl) ?_
      refine wv rfl (r_move rfl) ?_
      refine wv rfl (r_move rfl) ?_
      obtain ⟨r398, h399, hx⟩ := bind_some' hx
      refine w_call rfl rfl (hM.callO (l := []) fun X S oL hS hR hO => ct_impl_Merge _ X S r267 s270 r274 s277 (([] ++ r267) ++ [90]) s368 hS (seeA hO (.tail _ (.tail _ (.tail _ (.tail _ (.tail _ (.tail _ (.head _)))))))) (seeA hO (.tail _ (.tail _ (.tail _ (.tail _ (.tail _ (.head _))))))) (seeA hO (.tail _ (.tail _ (.head _)))) oL h399) ?_
      rintro _ w400 ⟨s401, rfl, hM⟩
      replace hM : St ⟨w, X, S⟩ [oC (cSl 1 fI r398.1) s401.v, oC (cSl 3 fDPart r385.1) s388.v, oC (cSl 3 fDPart r373.1) s376.v, oC (cSl 1 fI (([] ++ r267) ++ [90])) s368.v, oC (cSl 1 fI r296.1) s299.v, oC (cSl 1 fI r283.1) s286.v, oC (cSl 1 fI r274) s277.v, oC (cSl 1 fI r267) s270.v] [rV s_code.v (cSl 1 fY code)] _ := hM
      refine wv rfl (r_move rfl) ?_
      refine wv rfl (r_extract rfl rfl) ?_
      refine wv rfl (r_extract rfl rfl) ?_
      refine wv rfl (r_assign rfl) ?_
      refine wv rfl (r_assign rfl) ?_
      refine wl_nil ?_
      refine sq_n ?_
      refine wc_seq ?_
      refine wc_region ?_
      refine wv rfl (r_move rfl) ?_
      refine wv rfl (r_move rfl) ?_
      refine wv rfl (r_move rfl) ?_
      obtain ⟨r411, h412, hx⟩ := bind_some' hx
      refine w_call rfl rfl (hM.callO (l := []) fun X S oL hS hR hO => ct_impl_Merge _ X S r267 s270 (([] ++ r267) ++ [90]) s368 r274 s277 hS (seeA hO (.tail _ (.tail _ (.tail _ (.tail _ (.tail _ (.tail _ (.tail _ (.head _))))))))) (seeA hO (.tail _ (.tail _ (.tail _ (.head _))))) (seeA hO (.tail _ (.tail _ (.tail _ (.tail _ (.tail _ (.tail _ (.head _)))))))) oL h412) ?_
      rintro _ w413 ⟨s414, rfl, hM⟩
      replace hM : St ⟨w, X, S⟩ [oC (cSl 1 fI r411.1) s414.v, oC (cSl 1 fI r398.1) s401.v, oC (cSl 3 fDPart r385.1) s388.v, oC (cSl 3 fDPart r373.1) s376.v, oC (cSl 1 fI (([] ++ r267) ++ [90])) s368.v, oC (cSl 1 fI r296.1) s299.v, oC (cSl 1 fI r283.1) s286.v, oC (cSl 1 fI r274) s277.v, oC (cSl 1 fI r267) s270.v] [rV s_code.v (cSl 1 fY code)] _ := hM
      refine wv rfl (r_move rfl) ?_
      refine wv rfl (r_extract rfl rfl) ?_
      refine wv rfl (r_extract rfl rfl) ?_
      refine wv rfl (r_assign rfl) ?_
      refine wv rfl (r_assign rfl) ?_
      refine wl_nil ?_
      refine sq_n ?_
      refine wc_seq ?_
      refine wc_seq ?_
      refine wc_region ?_
      refine wv rfl (r_move rfl) ?_
      refine wv rfl (r_not rfl) ?_
      refine wv rfl (r_move rfl) ?_
      obtain ⟨c424, hx, hx428⟩ := bind_some' hx
      refine wl_mid 3 (fun _ : Unit => [(93, (.bool c424)), (3, s270.v), (10, s376.v), (12, s388.v), (14, s401.v), (15, (.bool r398.2)), (16, s414.v), (17, (.bool r411.2))]) (fun _ w' => St ⟨w, X, S⟩ [oC (cSl 1 fI r411.1) s414.v, oC (cSl 1 fI r398.1) s401.v, oC (cSl 3 fDPart r385.1) s388.v, oC (cSl 3 fDPart r373.1) s376.v, oC (cSl 1 fI (([] ++ r267) ++ [90])) s368.v, oC (cSl 1 fI r296.1) s299.v, oC (cSl 1 fI r283.1) s286.v, oC (cSl 1 fI r274) s277.v, oC (cSl 1 fI r267) s270.v] [rV s_code.v (cSl 1 fY code)] w') ?_ ?_
      · rcases Bool.eq_false_or_eq_true (!r373.2) with hg425 | hg425
        · replace hx := xif_t hg425 hx
          refine gs rfl (isB_no hg425) rfl ?_
          refine gs rfl (isB_no hg425) rfl ?_
          refine wv rfl (p_t rfl hg425 rfl) ?_
          obtain rfl := Option.some.inj hx
          exact mid_nil () ⟨rfl, rfl, rfl, rfl, rfl, rfl, rfl, rfl, trivial⟩ hM
        · replace hx := xif_f hg425 hx
          refine gv rfl hg425 rfl (r_move rfl) ?_
          refine gv rfl hg425 rfl (r_not rfl) ?_
          refine wv rfl (p_f rfl hg425 rfl) ?_
          obtain rfl := Option.some.inj hx
          exact mid_nil () ⟨rfl, rfl, rfl, rfl, rfl, rfl, rfl, rfl, trivial⟩ hM
      rintro _ w431 hM
      replace hx := hx428
      refine wv rfl (r_move rfl) ?_
      obtain ⟨c433, hx, hx437⟩ := bind_some' hx
      refine wl_mid 3 (fun _ : Unit => [(97, (.bool c433)), (3, s270.v), (10, s376.v), (12, s388.v), (14, s401.v), (16, s414.v), (17, (.bool r411.2))]) (fun _ w' => St ⟨w, X, S⟩ [oC (cSl 1 fI r411.1) s414.v, oC (cSl 1 fI r398.1) s401.v, oC (cSl 3 fDPart r385.1) s388.v, oC (cSl 3 fDPart r373.1) s376.v, oC (cSl 1 fI (([] ++ r267) ++ [90])) s368.v, oC (cSl 1 fI r296.1) s299.v, oC (cSl 1 fI r283.1) s286.v, oC (cSl 1 fI r274) s277.v, oC (cSl 1 fI r267) s270.v] [rV s_code.v (cSl 1 fY code)] w') ?_ ?_
      · rcases Bool.eq_false_or_eq_true c424 with hg434 | hg434
        · replace hx := xif_t hg434 hx
          refine gs rfl (isB_no hg434) rfl ?_
          refine gs rfl (isB_no hg434) rfl ?_
          refine wv rfl (p_t rfl hg434 rfl) ?_
          obtain rfl := Option.some.inj hx
          exact mid_nil () ⟨rfl, rfl, rfl, rfl, rfl, rfl, rfl, trivial⟩ hM
        · replace hx := xif_f hg434 hx
          refine gv rfl hg434 rfl (r_move rfl) ?_
          refine gv rfl hg434 rfl (r_not rfl) ?_
          refine wv rfl (p_f rfl hg434 rfl) ?_
          obtain rfl := Option.some.inj hx
          exact mid_nil () ⟨rfl, rfl, rfl, rfl, rfl, rfl, rfl, trivial⟩ hM
      rintro _ w440 hM
      replace hx := hx437
      refine wv rfl (r_move rfl) ?_
      obtain ⟨c442, hx, hx446⟩ := bind_some' hx
      refine wl_mid 3 (fun _ : Unit => [(101, (.bool c442)), (3, s270.v), (10, s376.v), (12, s388.v), (14, s401.v), (16, s414.v)]) (fun _ w' => St ⟨w, X, S⟩ [oC (cSl 1 fI r411.1) s414.v, oC (cSl 1 fI r398.1) s401.v, oC (cSl 3 fDPart r385.1) s388.v, oC (cSl 3 fDPart r373.1) s376.v, oC (cSl 1 fI (([] ++ r267) ++ [90])) s368.v, oC (cSl 1 fI r296.1) s299.v, oC (cSl 1 fI r283.1) s286.v, oC (cSl 1 fI r274) s277.v, oC (cSl 1 fI r267) s270.v] [rV s_code.v (cSl 1 fY code)] w') ?_ ?_
      · rcases Bool.eq_false_or_eq_true c433 with hg443 | hg443
        · replace hx := xif_t hg443 hx
          refine gs rfl (isB_no hg443) rfl ?_
          refine gs rfl (isB_no hg443) rfl ?_
          refine wv rfl (p_t rfl hg443 rfl) ?_
          obtain rfl := Option.some.inj hx
          exact mid_nil () ⟨rfl, rfl, rfl, rfl, rfl, rfl, trivial⟩ hM
        · replace hx := xif_f hg443 hx
          refine gv rfl hg443 rfl (r_move rfl) ?_
          refine gv rfl hg443 rfl (r_not rfl) ?_
          refine wv rfl (p_f rfl hg443 rfl) ?_
          obtain rfl := Option.some.inj hx
          exact mid_nil () ⟨rfl, rfl, rfl, rfl, rfl, rfl, trivial⟩ hM
      rintro _ w449 hM
      replace hx := hx446
      refine wv rfl (r_move rfl) ?_
      obtain ⟨c451, hx, hx465⟩ := bind_some' hx
      refine wl_mid 8 (fun _ : Unit => [(110, (.bool c451)), (10, s376.v), (12, s388.v), (14, s401.v), (16, s414.v)]) (fun _ w' => St ⟨w, X, S⟩ [oC (cSl 1 fI r411.1) s414.v, oC (cSl 1 fI r398.1) s401.v, oC (cSl 3 fDPart r385.1) s388.v, oC (cSl 3 fDPart r373.1) s376.v, oC (cSl 1 fI (([] ++ r267) ++ [90])) s368.v, oC (cSl 1 fI r296.1) s299.v, oC (cSl 1 fI r283.1) s286.v, oC (cSl 1 fI r274) s277.v, oC (cSl 1 fI r267) s270.v] [rV s_code.v (cSl 1 fY code)] w') ?_ ?_
      · rcases Bool.eq_false_or_eq_true c442 with hg452 | hg452
        · replace hx := xif_t hg452 hx
          refine gs rfl (isB_no hg452) rfl ?_
          refine gs rfl (isB_no hg452) rfl ?_
          refine gs rfl (isB_no hg452) rfl ?_
          refine gs rfl (isB_no hg452) rfl ?_
          refine gs rfl (isB_no hg452) rfl ?_
          refine gs rfl (isB_no hg452) rfl ?_
          refine gs rfl (isB_no hg452) rfl ?_
          refine wv rfl (p_t rfl hg452 rfl) ?_
          obtain rfl := Option.some.inj hx
          exact mid_nil () ⟨rfl, rfl, rfl, rfl, rfl, trivial⟩ hM
        · replace hx := xif_f hg452 hx
          refine gv rfl hg452 rfl (r_move rfl) ?_
          obtain ⟨r467, h468, hx⟩ := bind_some' hx
          refine gc rfl hg452 rfl rfl (hM.callO (l := []) fun X S oL hS hR hO => ct_impl_Touches _ X S r373.1 s376 hS (seeA hO (.tail _ (.tail _ (.tail _ (.head _))))) oL h468) ?_
          rintro _ w469 ⟨s470, rfl, hM⟩
          replace hM : St ⟨w, X, S⟩ [oC (cSl 1 fI r467) s470.v, oC (cSl 1 fI r411.1) s414.v, oC (cSl 1 fI r398.1) s401.v, oC (cSl 3 fDPart r385.1) s388.v, oC (cSl 3 fDPart r373.1) s376.v, oC (cSl 1 fI (([] ++ r267) ++ [90])) s368.v, oC (cSl 1 fI r296.1) s299.v, oC (cSl 1 fI r283.1) s286.v, oC (cSl 1 fI r274) s277.v, oC (cSl 1 fI r267) s270.v] [rV s_code.v (cSl 1 fY code)] _ := hM
          refine gv rfl hg452 rfl (r_lenC Try.underlying26 rfl (hM.seeO (.head _))) ?_
          refine gv rfl hg452 rfl (r_move rfl) ?_
          refine gv rfl hg452 rfl (r_lenC Try.underlying26 rfl (hM.seeO (.tail _ (.tail _ (.tail _ (.tail _ (.tail _ (.tail _ (.tail _ (.tail _ (.tail _ (.head _)))))))))))) ?_
          obtain ⟨hg476, hx⟩ := xg_some hx
          refine gv rfl hg452 rfl (r_add rfl rfl hg476) ?_
          refine gv rfl hg452 rfl (r_neq rfl rfl) ?_
          refine wv rfl (p_f rfl hg452 rfl) ?_
          obtain rfl := Option.some.inj hx
          replace hM := hM.p9.p9.p9.p9.p9.p9.p9.p9.p9
          replace hM := hM.t9
          exact mid_nil () ⟨rfl, rfl, rfl, rfl, rfl, trivial⟩ hM
      rintro _ w478 hM
      replace hx := hx465
      refine wl_nil ?_
      refine sq_n ?_
      refine wc_cond rfl (fun hc479 => ?_) (fun hc479 => ?_)
      · replace hx := xif_t hc479 hx
        refine wc_seq ?_
        refine wc_region ?_
        refine wv rfl (r_assign rfl) ?_
        refine wl_nil ?_
        refine sq_n ?_
        refine wc_ret ?_
        refine sq_ret ?_
        obtain rfl := Option.some.inj hx
        refine fin_ret [(.bool false)] ⟨rfl, trivial⟩ ?_
        replace hM := hM.t0
        have hM := hM.fewer rsN
        exact ⟨(), rfl, hM.gives⟩
      · replace hx := xif_f hc479 hx
        refine wc_skip ?_
        refine sq_n ?_
        refine wc_seq ?_
        refine wc_region ?_
        refine wv rfl (r_move rfl) ?_
        refine wv rfl (r_move rfl) ?_
        obtain ⟨r483, h484, hx⟩ := bind_some' hx
        refine w_call rfl rfl (hM.callV fun X S oL hS hR hO => ct_impl_Apart _ X S r373.1 s376 r385.1 s388 hS (seeA hO (.tail _ (.tail _ (.tail _ (.head _))))) (seeA hO (.tail _ (.tail _ (.head _)))) oL h484) ?_
        rintro _ w485 ⟨rfl, hR486⟩
        have hM := hM.call hR486
        refine wv rfl (r_not rfl) ?_
        refine wv rfl (r_move rfl) ?_
        obtain ⟨c489, hx, hx513⟩ := bind_some' hx
        refine wl_mid 10 (fun _ : Unit => [(125, (.bool c489))]) (fun _ w' => St ⟨w, X, S⟩ [oC (cSl 1 fI r411.1) s414.v, oC (cSl 1 fI r398.1) s401.v, oC (cSl 3 fDPart r385.1) s388.v, oC (cSl 3 fDPart r373.1) s376.v, oC (cSl 1 fI (([] ++ r267) ++ [90])) s368.v, oC (cSl 1 fI r296.1) s299.v, oC (cSl 1 fI r283.1) s286.v, oC (cSl 1 fI r274) s277.v, oC (cSl 1 fI r267) s270.v] [rV s_code.v (cSl 1 fY code)] w') ?_ ?_
        · rcases Bool.eq_false_or_eq_true (!r483) with hg490 | hg490
          · replace hx := xif_t hg490 hx
            refine gs rfl (isB_no hg490) rfl ?_
            refine gs rfl (isB_no hg490) rfl ?_
            refine gs rfl (isB_no hg490) rfl ?_
            refine gs rfl (isB_no hg490) rfl ?_
            refine gs rfl (isB_no hg490) rfl ?_
            refine gs rfl rfl rfl ?_
            refine gs rfl rfl rfl ?_
            refine gs rfl rfl rfl ?_
            refine gs rfl (isB_no hg490) rfl ?_
            refine wv rfl (p_t rfl hg490 rfl) ?_
            obtain rfl := Option.some.inj hx
            exact mid_nil () ⟨rfl, trivial⟩ hM
          · replace hx := xif_f hg490 hx
            refine gv rfl hg490 rfl (r_move rfl) ?_
            refine gv rfl hg490 rfl (r_move rfl) ?_
            obtain ⟨r516, h517, hx⟩ := bind_some' hx
            refine gc rfl hg490 rfl rfl (hM.callV fun X S oL hS hR hO => ct_impl_Clashes _ X S r373.1 s376 r385.1 s388 hS (seeA hO (.tail _ (.tail _ (.tail _ (.head _))))) (seeA hO (.tail _ (.tail _ (.head _)))) oL h517) ?_
            rintro _ w518 ⟨rfl, hR519⟩
            have hM := hM.call hR519
            refine gv rfl hg490 rfl (r_eql rfl rfl) ?_
            refine gv rfl hg490 rfl (r_move rfl) ?_
            obtain ⟨c522, hx, hx530⟩ := bind_some' hx
            refine wl_mid 4 (fun _ : Unit => [(124, (.bool c522)), (115, (.bool (!r483)))]) (fun _ w' => St ⟨w, X, S⟩ [oC (cSl 1 fI r411.1) s414.v, oC (cSl 1 fI r398.1) s401.v, oC (cSl 3 fDPart r385.1) s388.v, oC (cSl 3 fDPart r373.1) s376.v, oC (cSl 1 fI (([] ++ r267) ++ [90])) s368.v, oC (cSl 1 fI r296.1) s299.v, oC (cSl 1 fI r283.1) s286.v, oC (cSl 1 fI r274) s277.v, oC (cSl 1 fI r267) s270.v] [rV s_code.v (cSl 1 fY code)] w') ?_ ?_
            · rcases Bool.eq_false_or_eq_true (decide (r516 = 0)) with hg523 | hg523
              · replace hx := xif_t hg523 hx
                refine gv rfl hg523 rfl (r_move rfl) ?_
                refine gv rfl hg523 rfl (r_move rfl) ?_
                obtain ⟨r533, h534, hx⟩ := bind_some' hx
                refine gc rfl hg523 rfl rfl (hM.callV fun X S oL hS hR hO => ct_impl_SignsSame _ X S r398.1 s401 r411.1 s414 hS (seeA hO (.tail _ (.head _))) (seeA hO (.head _)) oL h534) ?_
                rintro _ w535 ⟨rfl, hR536⟩
                have hM := hM.call hR536
                refine gv rfl hg490 rfl (p_t rfl hg523 rfl) ?_
                obtain rfl := Option.some.inj hx
                exact mid_nil () ⟨rfl, rfl, trivial⟩ hM
              · replace hx := xif_f hg523 hx
                refine gs rfl (isB_no hg523) rfl ?_
                refine gs rfl (isB_no hg523) rfl ?_
                refine gs rfl (isB_no hg523) rfl ?_
                refine gv rfl hg490 rfl (p_f rfl hg523 rfl) ?_
                obtain rfl := Option.some.inj hx
                exact mid_nil () ⟨rfl, rfl, trivial⟩ hM
            rintro _ w537 hM
            replace hx := hx530
            refine wv rfl (p_f rfl hg490 rfl) ?_
            obtain rfl := Option.some.inj hx
            exact mid_nil () ⟨rfl, trivial⟩ hM
        rintro _ w538 hM
        replace hx := hx513
        refine wv rfl (r_assign rfl) ?_
        refine wl_nil ?_
        refine sq_n ?_
        refine wc_ret ?_
        obtain rfl := Option.some.inj hx
        refine fin_ret [(.bool c489)] ⟨rfl, trivial⟩ ?_
        replace hM := hM.t0
        have hM := hM.fewer rsN
        exact ⟨(), rfl, hM.gives⟩

end Go.Proofs.Ythfkcpdechjmnaa
