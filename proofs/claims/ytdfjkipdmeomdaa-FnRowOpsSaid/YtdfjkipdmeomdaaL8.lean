/- Walks of functions of this program (printed by a program of ours, by the rules of the layer). No condition. -/
import Derived.Test.YtdfjkipdmeomdaaGW
import Derived.Test.YtdfjkipdmeomdaaNr
namespace Go.Proofs.Ytdfjkipdmeomdaa
open Go.RowKit

noncomputable def x_laws_FnRowOps (code : List UInt8) : Option Bool :=
  bif decide ((1048576 : Int) < (code.length : Int)) then (some true) else (Option.bind (x_spec_MakeRows code) fun r7 => Option.bind (x_spec_RowCount r7) fun r15 => xg (inI (r15 + 1)) <| Option.bind (x_spec_MakeNum code (r15 + 1)) fun r21 => Option.bind (x_impl_RowsPut r7 r21 [65, 66]) fun r32 => Option.bind (x_impl_Apply r32.1 r7) fun r44 => Option.bind (x_impl_RowSigns r44.1 r21) fun r56 => Option.bind (x_impl_RowsDrop r44.1 r21) fun r68 => Option.bind (x_impl_Apply r68.1 r44.1) fun r80 => Option.bind (bif !r32.2 then (some true) else (some (!r44.2))) fun c93 => Option.bind (bif c93 then (some true) else (some (!r56.2))) fun c100 => Option.bind (bif c100 then (some true) else (some (!r68.2))) fun c107 => Option.bind (bif c107 then (some true) else (some (!r80.2))) fun c114 => Option.bind (bif c114 then (some true) else (Option.bind (x_impl_SignsSame r56.1 [65, 66]) fun r138 => some (!r138))) fun c121 => Option.bind (bif c121 then (some true) else (Option.bind (x_impl_RowCount r44.1) fun r160 => Option.bind (x_impl_RowCount r7) fun r165 => xg (inI (r165 + 1)) <| some (!decide (r160 = (r165 + 1))))) fun c144 => bif c144 then (some false) else (Option.bind (x_spec_RowCount r7) fun r175 => Option.bind (x_spec_MakeNum code r175) fun r179 => Option.bind (x_impl_RowMoved r7 r32.1 r179) fun r187 => Option.bind (bif decide (r21 ≤ r179) then (some true) else (Option.bind (x_spec_RowCount r7) fun r244 => Option.bind (bif decide (r21 = r244) then (Option.bind (x_spec_Rows r7) fun r267 => xg (0 ≤ r179 ∧ r179 < (r267.length : Int)) <| some (decide ((el r267 r179.toNat) = (r7.length : Int)))) else (some false)) fun c250 => some c250)) fun c202 => bif c202 then (xg (inI (r179 + 1)) <| Option.bind (bif r187.2 then (some (decide (r187.1 = (r179 + 1)))) else (some false)) fun c286 => Option.bind (bif c286 then (Option.bind (x_impl_SignsSame r80.1 r7) fun r305 => some r305) else (some false)) fun c295 => some c295) else (Option.bind (bif r187.2 then (some (decide (r187.1 = r179))) else (some false)) fun c312 => Option.bind (bif c312 then (Option.bind (x_impl_SignsSame r80.1 r7) fun r331 => some r331) else (some false)) fun c321 => some c321)))
theorem ct_laws_FnRowOps (w : World) (X S : Bs) (code : List UInt8) (s_code : Sv) (hS : ∀ b, S b → b < w.heap.size ∧ ¬ X b) (a_code_0 : (cSl 1 fY code).rd S w s_code.v) (oL : Sep [] X w) {r : Bool} (hx : x_laws_FnRowOps code = some r) :
    Ret Try.prog 4 [s_code.v] w (fun u w' => ∃ _ : Unit, u = (.bool r) ∧ Gives X S w [] [] w') := by
  unfold x_laws_FnRowOps at hx
  refine enter Try.func4 rfl Try.ntmps4 (by kernel_rfl) rfl ?_
  have hM := St.enter oL hS
  have hM := hM.addE (r := rV s_code.v (cSl 1 fY code)) a_code_0
  refine wc_seq ?_
  refine wc_region ?_
  refine wv rfl (r_assign rfl) ?_
  refine wl_nil ?_
  refine sq_n ?_
  refine wc_seq ?_
  refine wc_seq ?_
  refine wc_region ?_
  refine wv rfl (r_move rfl) ?_
  refine wv rfl (r_lenC Try.underlying32 rfl (hM.seeR (.head _))) ?_
  refine wv rfl (r_gtr rfl rfl) ?_
  refine wl_nil ?_
  refine sq_n ?_
  refine wc_cond rfl (fun hc340 => ?_) (fun hc340 => ?_)
  · replace hx := xif_t hc340 hx
    refine wc_seq ?_
    refine wc_region ?_
    refine wv rfl (r_assign rfl) ?_
    refine wl_nil ?_
    refine sq_n ?_
    refine wc_ret ?_
    refine sq_ret ?_
    obtain rfl := Option.some.inj hx
    refine fin_ret [(.bool true)] ⟨rfl, trivial⟩ ?_
    replace hM := hM.t0
    have hM := hM.fewer rsN
    exact ⟨(), rfl, hM.gives⟩
  · replace hx := xif_f hc340 hx
    refine wc_skip ?_
    refine sq_n ?_
    refine wc_seq ?_
    refine wc_region ?_
    refine wv rfl (r_move rfl) ?_
    obtain ⟨r343, h344, hx⟩ := bind_some' hx
    refine w_call rfl rfl (hM.callO (l := []) fun X S oL hS hR hO => ct_spec_MakeRows _ X S code s_code hS (hR _ (.head _)) oL h344) ?_
    rintro _ w345 ⟨s346, rfl, hM⟩
    replace hM : St ⟨w, X, S⟩ [oC (cSl 1 fI r343) s346.v] [rV s_code.v (cSl 1 fY code)] _ := hM
    refine wv rfl (r_assign rfl) ?_
    refine wl_nil ?_
    refine sq_n ?_
    refine wc_seq ?_
    refine wc_region ?_
    refine wv rfl (r_move rfl) ?_
    refine wv rfl (r_move rfl) ?_
    obtain ⟨r351, h352, hx⟩ := bind_some' hx
    refine w_call rfl rfl (hM.callV fun X S oL hS hR hO => ct_spec_RowCount _ X S r343 s346 hS (seeA hO (.head _)) oL h352) ?_
    rintro _ w353 ⟨rfl, hR354⟩
    have hM := hM.call hR354
    obtain ⟨hg356, hx⟩ := xg_some hx
    refine wv rfl (r_add rfl rfl hg356) ?_
    obtain ⟨r357, h358, hx⟩ := bind_some' hx
    refine w_call rfl rfl (hM.callV fun X S oL hS hR hO => ct_spec_MakeNum _ X S code s_code (r351 + 1) hS (hR _ (.head _)) oL h358) ?_
    rintro _ w359 ⟨rfl, hR360⟩
    have hM := hM.call hR360
    refine wv rfl (r_assign rfl) ?_
    refine wl_nil ?_
    refine sq_n ?_
    refine wc_seq ?_
    refine wc_region ?_
    refine wv rfl (r_move rfl) ?_
    refine wv rfl (r_move rfl) ?_
    refine w_ex rfl (x_lit (f := fI) (own := []) [65, 66] [(.int .i64 65), (.int .i64 66)] 2 Try.underlying22 sz3 (fun _ => rfl) rfl rfl rfl rfl rfl (by kernel_rfl) (fun _ => zP (pV _ rfl) (zP (pV _ rfl) zN)) hM ?_); intro s365 w364 hR366 hM
    obtain ⟨r368, h369, hx⟩ := bind_some' hx
    refine w_call rfl rfl (hM.callO (l := []) fun X S oL hS hR hO => ct_impl_RowsPut _ X S r343 s346 r357 [65, 66] s365 hS (seeA hO (.tail _ (.head _))) (seeA hO (.head _)) oL h369) ?_
    rintro _ w370 ⟨s371, rfl, hM⟩
    replace hM : St ⟨w, X, S⟩ [oC (cSl 3 fDPart r368.1) s371.v, oC (cSl 1 fI [65, 66]) s365.v, oC (cSl 1 fI r343) s346.v] [rV s_code.v (cSl 1 fY code)] _ := hM
    refine wv rfl (r_move rfl) ?_
    refine wv rfl (r_extract rfl rfl) ?_
    refine wv rfl (r_extract rfl rfl) ?_
    refine wv rfl (r_assign rfl) ?_
    refine wv rfl (r_assign rfl) ?_
    refine wl_nil ?_
    refine sq_n ?_
    refine wc_seq ?_
    refine wc_region ?_
    refine wv rfl (r_move rfl) ?_
    refine wv rfl (r_move rfl) ?_
    obtain ⟨r380, h381, hx⟩ := bind_some' hx
    refine w_call rfl rfl (hM.callO (l := []) fun X S oL hS hR hO => ct_impl_Apply _ X S r368.1 s371 r343 s346 hS (seeA hO (.head _)) (seeA hO (.tail _ (.tail _ (.head _)))) oL h381) ?_
    rintro _ w382 ⟨s383, rfl, hM⟩
    replace hM : St ⟨w, X, S⟩ [oC (cSl 1 fI r380.1) s383.v, oC (cSl 3 fDPart r368.1) s371.v, oC (cSl 1 fI [65, 66]) s365.v, oC (cSl 1 fI r343) s346.v] [rV s_code.v (cSl 1 fY code)] _ := hM
    refine wv rfl (r_move rfl) ?_
    refine wv rfl (r_extract rfl rfl) ?_
    refine wv rfl (r_extract rfl rfl) ?_
    refine wv rfl (r_assign rfl) ?_
    refine wv rfl (r_assign rfl) ?_
    refine wl_nil ?_
    refine sq_n ?_
    refine wc_seq ?_
    refine wc_region ?_
    refine wv rfl (r_move rfl) ?_
    refine wv rfl (r_move rfl) ?_
    obtain ⟨r392, h393, hx⟩ := bind_some' hx
    refine w_call rfl rfl (hM.callO (l := []) fun X S oL hS hR hO => ct_impl_RowSigns _ X S r380.1 s383 r357 hS (seeA hO (.head _)) oL h393) ?_
    rintro _ w394 ⟨s395, rfl, hM⟩
    replace hM : St ⟨w, X, S⟩ [oC (cSl 1 fI r392.1) s395.v, oC (cSl 1 fI r380.1) s383.v, oC (cSl 3 fDPart r368.1) s371.v, oC (cSl 1 fI [65, 66]) s365.v, oC (cSl 1 fI r343) s346.v] [rV s_code.v (cSl 1 fY code)] _ := hM
    refine wv rfl (r_move rfl) ?_
    refine wv rfl (r_extract rfl rfl) ?_
    refine wv rfl (r_extract rfl rfl) ?_
    refine wv rfl (r_assign rfl) ?_
    refine wv rfl (r_assign rfl) ?_
    refine wl_nil ?_
    refine sq_n ?_
    refine wc_seq ?_
    refine wc_region ?_
    refine wv rfl (r_move rfl) ?_
    refine wv rfl (r_move rfl) ?_
    obtain ⟨r404, h405, hx⟩ := bind_some' hx
    refine w_call rfl rfl (hM.callO (l := []) fun X S oL hS hR hO => ct_impl_RowsDrop _ X S r380.1 s383 r357 hS (seeA hO (.tail _ (.head _))) oL h405) ?_
    rintro _ w406 ⟨s407, rfl, hM⟩
    replace hM : St ⟨w, X, S⟩ [oC (cSl 3 fDPart r404.1) s407.v, oC (cSl 1 fI r392.1) s395.v, oC (cSl 1 fI r380.1) s383.v, oC (cSl 3 fDPart r368.1) s371.v, oC (cSl 1 fI [65, 66]) s365.v, oC (cSl 1 fI r343) s346.v] [rV s_code.v (cSl 1 fY code)] _ := hM
    refine wv rfl (r_move rfl) ?_
    refine wv rfl (r_extract rfl rfl) ?_
    refine wv rfl (r_extract rfl rfl) ?_
    refine wv rfl (r_assign rfl) ?_
    refine wv rfl (r_assign rfl) ?_
    refine wl_nil ?_
    refine sq_n ?_
    refine wc_seq ?_
    refine wc_region ?_
    refine wv rfl (r_move rfl) ?_
    refine wv rfl (r_move rfl) ?_
    obtain ⟨r416, h417, hx⟩ := bind_some' hx
    refine w_call rfl rfl (hM.callO (l := []) fun X S oL hS hR hO => ct_impl_Apply _ X S r404.1 s407 r380.1 s383 hS (seeA hO (.head _)) (seeA hO (.tail _ (.tail _ (.head _)))) oL h417) ?_
    rintro _ w418 ⟨s419, rfl, hM⟩
    replace hM : St ⟨w, X, S⟩ [oC (cSl 1 fI r416.1) s419.v, oC (cSl 3 fDPart r404.1) s407.v, oC (cSl 1 fI r392.1) s395.v, oC (cSl 1 fI r380.1) s383.v, oC (cSl 3 fDPart r368.1) s371.v, oC (cSl 1 fI [65, 66]) s365.v, oC (cSl 1 fI r343) s346.v] [rV s_code.v (cSl 1 fY code)] _ := hM
    refine wv rfl (r_move rfl) ?_
    refine wv rfl (r_extract rfl rfl) ?_
    refine wv rfl (r_extract rfl rfl) ?_
    refine wv rfl (r_assign rfl) ?_
    refine wv rfl (r_assign rfl) ?_
    refine wl_nil ?_
    refine sq_n ?_
    refine wc_seq ?_
    refine wc_seq ?_
    refine wc_region ?_
    refine wv rfl (r_move rfl) ?_
    refine wv rfl (r_not rfl) ?_
    refine wv rfl (r_move rfl) ?_
    obtain ⟨c429, hx, hx433⟩ := bind_some' hx
    refine wl_mid 3 (fun _ : Unit => [(65, (.bool c429)), (0, s_code.v), (3, s346.v), (4, (.int .i64 r357)), (5, s371.v), (7, s383.v), (9, s395.v), (10, (.bool r392.2)), (12, (.bool r404.2)), (13, s419.v), (14, (.bool r416.2))]) (fun _ w' => St ⟨w, X, S⟩ [oC (cSl 1 fI r416.1) s419.v, oC (cSl 3 fDPart r404.1) s407.v, oC (cSl 1 fI r392.1) s395.v, oC (cSl 1 fI r380.1) s383.v, oC (cSl 3 fDPart r368.1) s371.v, oC (cSl 1 fI [65, 66]) s365.v, oC (cSl 1 fI r343) s346.v] [rV s_code.v (cSl 1 fY code)] w') ?_ ?_
    · rcases Bool.eq_false_or_eq_true (!r368.2) with hg430 | hg430
      · replace hx := xif_t hg430 hx
        refine gs rfl (isB_no hg430) rfl ?_
        refine gs rfl (isB_no hg430) rfl ?_
        refine wv rfl (p_t rfl hg430 rfl) ?_
        obtain rfl := Option.some.inj hx
        exact mid_nil () ⟨rfl, rfl, rfl, rfl, rfl, rfl, rfl, rfl, rfl, rfl, rfl, trivial⟩ hM
      · replace hx := xif_f hg430 hx
        refine gv rfl hg430 rfl (r_move rfl) ?_
        refine gv rfl hg430 rfl (r_not rfl) ?_
        refine wv rfl (p_f rfl hg430 rfl) ?_
        obtain rfl := Option.some.inj hx
        exact mid_nil () ⟨rfl, rfl, rfl, rfl, rfl, rfl, rfl, rfl, rfl, rfl, rfl, trivial⟩ hM
    rintro _ w436 hM
    replace hx := hx433
    refine wv rfl (r_move rfl) ?_
    obtain ⟨c438, hx, hx442⟩ := bind_some' hx
    refine wl_mid 3 (fun _ : Unit => [(69, (.bool c438)), (0, s_code.v), (3, s346.v), (4, (.int .i64 r357)), (5, s371.v), (7, s383.v), (9, s395.v), (12, (.bool r404.2)), (13, s419.v), (14, (.bool r416.2))]) (fun _ w' => St ⟨w, X, S⟩ [oC (cSl 1 fI r416.1) s419.v, oC (cSl 3 fDPart r404.1) s407.v, oC (cSl 1 fI r392.1) s395.v, oC (cSl 1 fI r380.1) s383.v, oC (cSl 3 fDPart r368.1) s371.v, oC (cSl 1 fI [65, 66]) s365.v, oC (cSl 1 fI r343) s346.v] [rV s_code.v (cSl 1 fY code)] w') ?_ ?_
    · rcases Bool.eq_false_or_eq_true c429 with hg439 | hg439
      · replace hx := xif_t hg439 hx
        refine gs rfl (isB_no hg439) rfl ?_
        refine gs rfl (isB_no hg439) rfl ?_
        refine wv rfl (p_t rfl hg439 rfl) ?_
        obtain rfl := Option.some.inj hx
        exact mid_nil () ⟨rfl, rfl, rfl, rfl, rfl, rfl, rfl, rfl, rfl, rfl, trivial⟩ hM
      · replace hx := xif_f hg439 hx
        refine gv rfl hg439 rfl (r_move rfl) ?_
        refine gv rfl hg439 rfl (r_not rfl) ?_
        refine wv rfl (p_f rfl hg439 rfl) ?_
        obtain rfl := Option.some.inj hx
        exact mid_nil () ⟨rfl, rfl, rfl, rfl, rfl, rfl, rfl, rfl, rfl, rfl, trivial⟩ hM
    rintro _ w445 hM
    replace hx := hx442
    refine wv rfl (r_move rfl) ?_
    obtain ⟨c447, hx, hx451⟩ := bind_some' hx
    refine wl_mid 3 (fun _ : Unit => [(73, (.bool c447)), (0, s_code.v), (3, s346.v), (4, (.int .i64 r357)), (5, s371.v), (7, s383.v), (9, s395.v), (13, s419.v), (14, (.bool r416.2))]) (fun _ w' => St ⟨w, X, S⟩ [oC (cSl 1 fI r416.1) s419.v, oC (cSl 3 fDPart r404.1) s407.v, oC (cSl 1 fI r392.1) s395.v, oC (cSl 1 fI r380.1) s383.v, oC (cSl 3 fDPart r368.1) s371.v, oC (cSl 1 fI [65, 66]) s365.v, oC (cSl 1 fI r343) s346.v] [rV s_code.v (cSl 1 fY code)] w') ?_ ?_
    · rcases Bool.eq_false_or_eq_true c438 with hg448 | hg448
      · replace hx := xif_t hg448 hx
        refine gs rfl (isB_no hg448) rfl ?_
        refine gs rfl (isB_no hg448) rfl ?_
        refine wv rfl (p_t rfl hg448 rfl) ?_
        obtain rfl := Option.some.inj hx
        exact mid_nil () ⟨rfl, rfl, rfl, rfl, rfl, rfl, rfl, rfl, rfl, trivial⟩ hM
      · replace hx := xif_f hg448 hx
        refine gv rfl hg448 rfl (r_move rfl) ?_
        refine gv rfl hg448 rfl (r_not rfl) ?_
        refine wv rfl (p_f rfl hg448 rfl) ?_
        obtain rfl := Option.some.inj hx
        exact mid_nil () ⟨rfl, rfl, rfl, rfl, rfl, rfl, rfl, rfl, rfl, trivial⟩ hM
    rintro _ w454 hM
    replace hx := hx451
    refine wv rfl (r_move rfl) ?_
    obtain ⟨c456, hx, hx460⟩ := bind_some' hx
    refine wl_mid 3 (fun _ : Unit => [(77, (.bool c456)), (0, s_code.v), (3, s346.v), (4, (.int .i64 r357)), (5, s371.v), (7, s383.v), (9, s395.v), (13, s419.v)]) (fun _ w' => St ⟨w, X, S⟩ [oC (cSl 1 fI r416.1) s419.v, oC (cSl 3 fDPart r404.1) s407.v, oC (cSl 1 fI r392.1) s395.v, oC (cSl 1 fI r380.1) s383.v, oC (cSl 3 fDPart r368.1) s371.v, oC (cSl 1 fI [65, 66]) s365.v, oC (cSl 1 fI r343) s346.v] [rV s_code.v (cSl 1 fY code)] w') ?_ ?_
    · rcases Bool.eq_false_or_eq_true c447 with hg457 | hg457
      · replace hx := xif_t hg457 hx
        refine gs rfl (isB_no hg457) rfl ?_
        refine gs rfl (isB_no hg457) rfl ?_
        refine wv rfl (p_t rfl hg457 rfl) ?_
        obtain rfl := Option.some.inj hx
        exact mid_nil () ⟨rfl, rfl, rfl, rfl, rfl, rfl, rfl, rfl, trivial⟩ hM
      · replace hx := xif_f hg457 hx
        refine gv rfl hg457 rfl (r_move rfl) ?_
        refine gv rfl hg457 rfl (r_not rfl) ?_
        refine wv rfl (p_f rfl hg457 rfl) ?_
        obtain rfl := Option.some.inj hx
        exact mid_nil () ⟨rfl, rfl, rfl, rfl, rfl, rfl, rfl, rfl, trivial⟩ hM
    rintro _ w463 hM
    replace hx := hx460
    refine wv rfl (r_move rfl) ?_
    obtain ⟨c465, hx, hx477⟩ := bind_some' hx
    refine wl_mid 5 (fun _ : Unit => [(83, (.bool c465)), (0, s_code.v), (3, s346.v), (4, (.int .i64 r357)), (5, s371.v), (7, s383.v), (13, s419.v)]) (fun _ w' => St ⟨w, X, S⟩ [oC (cSl 1 fI r416.1) s419.v, oC (cSl 3 fDPart r404.1) s407.v, oC (cSl 1 fI r392.1) s395.v, oC (cSl 1 fI r380.1) s383.v, oC (cSl 3 fDPart r368.1) s371.v, oC (cSl 1 fI [65, 66]) s365.v, oC (cSl 1 fI r343) s346.v] [rV s_code.v (cSl 1 fY code)] w') ?_ ?_
    · rcases Bool.eq_false_or_eq_true c456 with hg466 | hg466
      · replace hx := xif_t hg466 hx
        refine gs rfl (isB_no hg466) rfl ?_
        refine gs rfl (isB_no hg466) rfl ?_
        refine gs rfl (isB_no hg466) rfl ?_
        refine gs rfl (isB_no hg466) rfl ?_
        refine wv rfl (p_t rfl hg466 rfl) ?_
        obtain rfl := Option.some.inj hx
        exact mid_nil () ⟨rfl, rfl, rfl, rfl, rfl, rfl, rfl, trivial⟩ hM
      · replace hx := xif_f hg466 hx
        refine gv rfl hg466 rfl (r_move rfl) ?_
        refine g_ex rfl hg466 rfl (x_lit (f := fI) (own := []) [65, 66] [(.int .i64 65), (.int .i64 66)] 2 Try.underlying22 sz3 (fun _ => rfl) rfl rfl rfl rfl rfl (by kernel_rfl) (fun _ => zP (pV _ rfl) (zP (pV _ rfl) zN)) hM ?_); intro s480 w479 hR481 hM
        obtain ⟨r483, h484, hx⟩ := bind_some' hx
        refine gc rfl hg466 rfl rfl (hM.callV fun X S oL hS hR hO => ct_impl_SignsSame _ X S r392.1 s395 [65, 66] s480 hS (seeA hO (.tail _ (.tail _ (.tail _ (.head _))))) (seeA hO (.head _)) oL h484) ?_
        rintro _ w485 ⟨rfl, hR486⟩
        have hM := hM.call hR486
        refine gv rfl hg466 rfl (r_not rfl) ?_
        refine wv rfl (p_f rfl hg466 rfl) ?_
        obtain rfl := Option.some.inj hx
        replace hM := hM.p7.p7.p7.p7.p7.p7.p7
        replace hM := hM.t7
        exact mid_nil () ⟨rfl, rfl, rfl, rfl, rfl, rfl, rfl, trivial⟩ hM
    rintro _ w488 hM
    replace hx := hx477
    refine wv rfl (r_move rfl) ?_
    obtain ⟨c490, hx, hx505⟩ := bind_some' hx
    refine wl_mid 7 (fun _ : Unit => [(91, (.bool c490)), (0, s_code.v), (3, s346.v), (4, (.int .i64 r357)), (5, s371.v), (13, s419.v)]) (fun _ w' => St ⟨w, X, S⟩ [oC (cSl 1 fI r416.1) s419.v, oC (cSl 3 fDPart r404.1) s407.v, oC (cSl 1 fI r392.1) s395.v, oC (cSl 1 fI r380.1) s383.v, oC (cSl 3 fDPart r368.1) s371.v, oC (cSl 1 fI [65, 66]) s365.v, oC (cSl 1 fI r343) s346.v] [rV s_code.v (cSl 1 fY code)] w') ?_ ?_
    · rcases Bool.eq_false_or_eq_true c465 with hg491 | hg491
      · replace hx := xif_t hg491 hx
        refine gs rfl (isB_no hg491) rfl ?_
        refine gs rfl (isB_no hg491) rfl ?_
        refine gs rfl (isB_no hg491) rfl ?_
        refine gs rfl (isB_no hg491) rfl ?_
        refine gs rfl (isB_no hg491) rfl ?_
        refine gs rfl (isB_no hg491) rfl ?_
        refine wv rfl (p_t rfl hg491 rfl) ?_
        obtain rfl := Option.some.inj hx
        exact mid_nil () ⟨rfl, rfl, rfl, rfl, rfl, rfl, trivial⟩ hM
      · replace hx := xif_f hg491 hx
        refine gv rfl hg491 rfl (r_move rfl) ?_
        obtain ⟨r507, h508, hx⟩ := bind_some' hx
        refine gc rfl hg491 rfl rfl (hM.callV fun X S oL hS hR hO => ct_impl_RowCount _ X S r380.1 s383 hS (seeA hO (.tail _ (.tail _ (.tail _ (.head _))))) oL h508) ?_
        rintro _ w509 ⟨rfl, hR510⟩
        have hM := hM.call hR510
        refine gv rfl hg491 rfl (r_move rfl) ?_
        obtain ⟨r512, h513, hx⟩ := bind_some' hx
        refine gc rfl hg491 rfl rfl (hM.callV fun X S oL hS hR hO => ct_impl_RowCount _ X S r343 s346 hS (seeA hO (.tail _ (.tail _ (.tail _ (.tail _ (.tail _ (.tail _ (.head _)))))))) oL h513) ?_
        rintro _ w514 ⟨rfl, hR515⟩
        have hM := hM.call hR515
        obtain ⟨hg517, hx⟩ := xg_some hx
        refine gv rfl hg491 rfl (r_add rfl rfl hg517) ?_
        refine gv rfl hg491 rfl (r_neq rfl rfl) ?_
        refine wv rfl (p_f rfl hg491 rfl) ?_
        obtain rfl := Option.some.inj hx
        exact mid_nil () ⟨rfl, rfl, rfl, rfl, rfl, rfl, trivial⟩ hM
    rintro _ w519 hM
    replace hx := hx505
    refine wl_nil ?_
    refine sq_n ?_
    refine wc_cond rfl (fun hc520 => ?_) (fun hc520 => ?_)
    · replace hx := xif_t hc520 hx
      refine wc_seq ?_
      refine wc_region ?_
      refine wv rfl (r_assign rfl) ?_
      refine wl_nil ?_
      refine sq_n ?_
      refine wc_ret ?_
      refine sq_ret ?_
      obtain rfl := Option.some.inj hx
      refine fin_ret [(.bool false)] ⟨rfl, trivial⟩ ?_
      replace hM := hM.t0
      have hM := hM.fewer rsN
      exact ⟨(), rfl, hM.gives⟩
    · replace hx := xif_f hc520 hx
      refine wc_skip ?_
      refine sq_n ?_
      refine wc_seq ?_
      refine wc_region ?_
      refine wv rfl (r_move rfl) ?_
      refine wv rfl (r_move rfl) ?_
      obtain ⟨r524, h525, hx⟩ := bind_some' hx
      refine w_call rfl rfl (hM.callV fun X S oL hS hR hO => ct_spec_RowCount _ X S r343 s346 hS (seeA hO (.tail _ (.tail _ (.tail _ (.tail _ (.tail _ (.tail _ (.head _)))))))) oL h525) ?_
      rintro _ w526 ⟨rfl, hR527⟩
      have hM := hM.call hR527
      obtain ⟨r528, h529, hx⟩ := bind_some' hx
      refine w_call rfl rfl (hM.callV fun X S oL hS hR hO => ct_spec_MakeNum _ X S code s_code r524 hS (hR _ (.head _)) oL h529) ?_
      rintro _ w530 ⟨rfl, hR531⟩
      have hM := hM.call hR531
      refine wv rfl (r_assign rfl) ?_
      refine wl_nil ?_
      refine sq_n ?_
      refine wc_seq ?_
      refine wc_region ?_
      refine wv rfl (r_move rfl) ?_
      refine wv rfl (r_move rfl) ?_
      refine wv rfl (r_move rfl) ?_
      obtain ⟨r536, h537, hx⟩ := bind_some' hx
      refine w_call rfl rfl (hM.callV fun X S oL hS hR hO => ct_impl_RowMoved _ X S r343 s346 r368.1 s371 r528 hS (seeA hO (.tail _ (.tail _ (.tail _ (.tail _ (.tail _ (.tail _ (.head _)))))))) (seeA hO (.tail _ (.tail _ (.tail _ (.tail _ (.head _)))))) oL h537) ?_
      rintro _ w538 ⟨rfl, hR539⟩
      have hM := hM.call hR539
      refine wv rfl (r_move rfl) ?_
      refine wv rfl (r_extract rfl rfl) ?_
      refine wv rfl (r_extract rfl rfl) ?_
      refine wv rfl (r_assign rfl) ?_
      refine wv rfl (r_assign rfl) ?_
      refine wl_nil ?_
      refine sq_n ?_
      refine wc_seq ?_
      refine wc_region ?_
      refine wv rfl (r_move rfl) ?_
      refine wv rfl (r_assign rfl) ?_
      refine wl_nil ?_
      refine sq_n ?_
      refine wc_seq ?_
      refine wc_seq ?_
      refine wc_region ?_
      refine wv rfl (r_move rfl) ?_
      refine wv rfl (r_move rfl) ?_
      refine wv rfl (r_geq rfl rfl) ?_
      refine wv rfl (r_move rfl) ?_
      obtain ⟨c551, hx, hx591⟩ := bind_some' hx
      refine wl_mid 15 (fun _ : Unit => [(122, (.bool c551)), (3, s346.v), (13, s419.v), (15, (.int .i64 r528)), (16, (.int .i64 r536.1)), (17, (.bool r536.2)), (18, (.int .i64 r528))]) (fun _ w' => St ⟨w, X, S⟩ [oC (cSl 1 fI r416.1) s419.v, oC (cSl 3 fDPart r404.1) s407.v, oC (cSl 1 fI r392.1) s395.v, oC (cSl 1 fI r380.1) s383.v, oC (cSl 3 fDPart r368.1) s371.v, oC (cSl 1 fI [65, 66]) s365.v, oC (cSl 1 fI r343) s346.v] [rV s_code.v (cSl 1 fY code)] w') ?_ ?_
      · rcases Bool.eq_false_or_eq_true (decide (r357 ≤ r528)) with hg552 | hg552
        · replace hx := xif_t hg552 hx
          refine gs rfl (isB_no hg552) rfl ?_
          refine gs rfl (isB_no hg552) rfl ?_
          refine gs rfl (isB_no hg552) rfl ?_
          refine gs rfl (isB_no hg552) rfl ?_
          refine gs rfl (isB_no hg552) rfl ?_
          refine gs rfl rfl rfl ?_
          refine gs rfl rfl rfl ?_
          refine gs rfl rfl rfl ?_
          refine gs rfl rfl rfl ?_
          refine gs rfl rfl rfl ?_
          refine gs rfl rfl rfl ?_
          refine gs rfl rfl rfl ?_
          refine gs rfl rfl rfl ?_
          refine gs rfl (isB_no hg552) rfl ?_
          refine wv rfl (p_t rfl hg552 rfl) ?_
          obtain rfl := Option.some.inj hx
          exact mid_nil () ⟨rfl, rfl, rfl, rfl, rfl, rfl, rfl, trivial⟩ hM
        · replace hx := xif_f hg552 hx
          refine gv rfl hg552 rfl (r_move rfl) ?_
          refine gv rfl hg552 rfl (r_move rfl) ?_
          obtain ⟨r594, h595, hx⟩ := bind_some' hx
          refine gc rfl hg552 rfl rfl (hM.callV fun X S oL hS hR hO => ct_spec_RowCount _ X S r343 s346 hS (seeA hO (.tail _ (.tail _ (.tail _ (.tail _ (.tail _ (.tail _ (.head _)))))))) oL h595) ?_
          rintro _ w596 ⟨rfl, hR597⟩
          have hM := hM.call hR597
          refine gv rfl hg552 rfl (r_eql rfl rfl) ?_
          refine gv rfl hg552 rfl (r_move rfl) ?_
          obtain ⟨c600, hx, hx616⟩ := bind_some' hx
          refine wl_mid 9 (fun _ : Unit => [(121, (.bool c600)), (3, s346.v), (13, s419.v), (15, (.int .i64 r528)), (16, (.int .i64 r536.1)), (17, (.bool r536.2)), (18, (.int .i64 r528)), (107, (.bool (decide (r357 ≤ r528))))]) (fun _ w' => St ⟨w, X, S⟩ [oC (cSl 1 fI r416.1) s419.v, oC (cSl 3 fDPart r404.1) s407.v, oC (cSl 1 fI r392.1) s395.v, oC (cSl 1 fI r380.1) s383.v, oC (cSl 3 fDPart r368.1) s371.v, oC (cSl 1 fI [65, 66]) s365.v, oC (cSl 1 fI r343) s346.v] [rV s_code.v (cSl 1 fY code)] w') ?_ ?_
          · rcases Bool.eq_false_or_eq_true (decide (r357 = r594)) with hg601 | hg601
            · replace hx := xif_t hg601 hx
              refine gv rfl hg601 rfl (r_move rfl) ?_
              obtain ⟨r618, h619, hx⟩ := bind_some' hx
              refine gc rfl hg601 rfl rfl (hM.callO (l := []) fun X S oL hS hR hO => ct_spec_Rows _ X S r343 s346 hS (seeA hO (.tail _ (.tail _ (.tail _ (.tail _ (.tail _ (.tail _ (.head _)))))))) oL h619) ?_
              rintro _ w620 ⟨s621, rfl, hM⟩
              replace hM : St ⟨w, X, S⟩ [oC (cSl 1 fI r618) s621.v, oC (cSl 1 fI r416.1) s419.v, oC (cSl 3 fDPart r404.1) s407.v, oC (cSl 1 fI r392.1) s395.v, oC (cSl 1 fI r380.1) s383.v, oC (cSl 3 fDPart r368.1) s371.v, oC (cSl 1 fI [65, 66]) s365.v, oC (cSl 1 fI r343) s346.v] [rV s_code.v (cSl 1 fY code)] _ := hM
              refine gv rfl hg601 rfl (r_move rfl) ?_
              obtain ⟨hg626, hx⟩ := xg_some hx
              have hi625 : r528.toNat < r618.length := by omega
              refine gv rfl hg601 rfl (r_ixC Try.underlying22 sz3 rfl rfl (hM.seeO (.head _)) hg626) ?_
              refine gv rfl hg601 rfl (r_ld Try.underlying3 rfl rfl (Cs.get (i := r528.toNat) (j := 0) (hM.seeO (.head _)) (fun _ => rfl) hi625 rfl)) ?_
              refine gv rfl hg601 rfl (r_move rfl) ?_
              refine gv rfl hg601 rfl (r_lenC Try.underlying22 rfl (hM.seeO (.tail _ (.tail _ (.tail _ (.tail _ (.tail _ (.tail _ (.tail _ (.head _)))))))))) ?_
              refine gv rfl hg601 rfl (r_eql rfl rfl) ?_
              refine gv rfl hg552 rfl (p_t rfl hg601 rfl) ?_
              obtain rfl := Option.some.inj hx
              replace hM := hM.p7.p7.p7.p7.p7.p7.p7
              replace hM := hM.t7
              exact mid_nil () ⟨rfl, rfl, rfl, rfl, rfl, rfl, rfl, rfl, trivial⟩ hM
            · replace hx := xif_f hg601 hx
              refine gs rfl (isB_no hg601) rfl ?_
              refine gs rfl (isB_no hg601) rfl ?_
              refine gs rfl (isB_no hg601) rfl ?_
              refine gs rfl (isB_no hg601) rfl ?_
              refine gs rfl (isB_no hg601) rfl ?_
              refine gs rfl (isB_no hg601) rfl ?_
              refine gs rfl (isB_no hg601) rfl ?_
              refine gs rfl (isB_no hg601) rfl ?_
              refine gv rfl hg552 rfl (p_f rfl hg601 rfl) ?_
              obtain rfl := Option.some.inj hx
              exact mid_nil () ⟨rfl, rfl, rfl, rfl, rfl, rfl, rfl, rfl, trivial⟩ hM
          rintro _ w631 hM
          replace hx := hx616
          refine wv rfl (p_f rfl hg552 rfl) ?_
          obtain rfl := Option.some.inj hx
          exact mid_nil () ⟨rfl, rfl, rfl, rfl, rfl, rfl, rfl, trivial⟩ hM
      rintro _ w632 hM
      replace hx := hx591
      refine wl_nil ?_
      refine sq_n ?_
      refine wc_cond rfl (fun hc633 => ?_) (fun hc633 => ?_)
      · replace hx := xif_t hc633 hx
        refine wc_region ?_
        refine wv rfl (r_move rfl) ?_
        obtain ⟨hg636, hx⟩ := xg_some hx
        refine wv rfl (r_add rfl rfl hg636) ?_
        refine wv rfl (r_assign rfl) ?_
        refine wl_nil ?_
        refine sq_n ?_
        refine wc_seq ?_
        refine wc_region ?_
        refine wv rfl (r_move rfl) ?_
        refine wv rfl (r_move rfl) ?_
        obtain ⟨c640, hx, hx645⟩ := bind_some' hx
        refine wl_mid 4 (fun _ : Unit => [(130, (.bool c640)), (3, s346.v), (13, s419.v)]) (fun _ w' => St ⟨w, X, S⟩ [oC (cSl 1 fI r416.1) s419.v, oC (cSl 3 fDPart r404.1) s407.v, oC (cSl 1 fI r392.1) s395.v, oC (cSl 1 fI r380.1) s383.v, oC (cSl 3 fDPart r368.1) s371.v, oC (cSl 1 fI [65, 66]) s365.v, oC (cSl 1 fI r343) s346.v] [rV s_code.v (cSl 1 fY code)] w') ?_ ?_
        · rcases Bool.eq_false_or_eq_true r536.2 with hg641 | hg641
          · replace hx := xif_t hg641 hx
            refine gv rfl hg641 rfl (r_move rfl) ?_
            refine gv rfl hg641 rfl (r_move rfl) ?_
            refine gv rfl hg641 rfl (r_eql rfl rfl) ?_
            refine wv rfl (p_t rfl hg641 rfl) ?_
            obtain rfl := Option.some.inj hx
            exact mid_nil () ⟨rfl, rfl, rfl, trivial⟩ hM
          · replace hx := xif_f hg641 hx
            refine gs rfl (isB_no hg641) rfl ?_
            refine gs rfl (isB_no hg641) rfl ?_
            refine gs rfl (isB_no hg641) rfl ?_
            refine wv rfl (p_f rfl hg641 rfl) ?_
            obtain rfl := Option.some.inj hx
            exact mid_nil () ⟨rfl, rfl, rfl, trivial⟩ hM
        rintro _ w649 hM
        replace hx := hx645
        refine wv rfl (r_move rfl) ?_
        obtain ⟨c651, hx, hx659⟩ := bind_some' hx
        refine wl_mid 4 (fun _ : Unit => [(135, (.bool c651))]) (fun _ w' => St ⟨w, X, S⟩ [oC (cSl 1 fI r416.1) s419.v, oC (cSl 3 fDPart r404.1) s407.v, oC (cSl 1 fI r392.1) s395.v, oC (cSl 1 fI r380.1) s383.v, oC (cSl 3 fDPart r368.1) s371.v, oC (cSl 1 fI [65, 66]) s365.v, oC (cSl 1 fI r343) s346.v] [rV s_code.v (cSl 1 fY code)] w') ?_ ?_
        · rcases Bool.eq_false_or_eq_true c640 with hg652 | hg652
          · replace hx := xif_t hg652 hx
            refine gv rfl hg652 rfl (r_move rfl) ?_
            refine gv rfl hg652 rfl (r_move rfl) ?_
            obtain ⟨r662, h663, hx⟩ := bind_some' hx
            refine gc rfl hg652 rfl rfl (hM.callV fun X S oL hS hR hO => ct_impl_SignsSame _ X S r416.1 s419 r343 s346 hS (seeA hO (.head _)) (seeA hO (.tail _ (.tail _ (.tail _ (.tail _ (.tail _ (.tail _ (.head _)))))))) oL h663) ?_
            rintro _ w664 ⟨rfl, hR665⟩
            have hM := hM.call hR665
            refine wv rfl (p_t rfl hg652 rfl) ?_
            obtain rfl := Option.some.inj hx
            exact mid_nil () ⟨rfl, trivial⟩ hM
          · replace hx := xif_f hg652 hx
            refine gs rfl (isB_no hg652) rfl ?_
            refine gs rfl (isB_no hg652) rfl ?_
            refine gs rfl (isB_no hg652) rfl ?_
            refine wv rfl (p_f rfl hg652 rfl) ?_
            obtain rfl := Option.some.inj hx
            exact mid_nil () ⟨rfl, trivial⟩ hM
        rintro _ w666 hM
        replace hx := hx659
        refine wv rfl (r_assign rfl) ?_
        refine wl_nil ?_
        refine sq_n ?_
        refine wc_ret ?_
        obtain rfl := Option.some.inj hx
        refine fin_ret [(.bool c651)] ⟨rfl, trivial⟩ ?_
        replace hM := hM.t0
        have hM := hM.fewer rsN
        exact ⟨(), rfl, hM.gives⟩
      · replace hx := xif_f hc633 hx
        refine wc_skip ?_
        refine sq_n ?_
        refine wc_seq ?_
        refine wc_region ?_
        refine wv rfl (r_move rfl) ?_
        refine wv rfl (r_move rfl) ?_
        obtain ⟨c670, hx, hx675⟩ := bind_some' hx
        refine wl_mid 4 (fun _ : Unit => [(130, (.bool c670)), (3, s346.v), (13, s419.v)]) (fun _ w' => St ⟨w, X, S⟩ [oC (cSl 1 fI r416.1) s419.v, oC (cSl 3 fDPart r404.1) s407.v, oC (cSl 1 fI r392.1) s395.v, oC (cSl 1 fI r380.1) s383.v, oC (cSl 3 fDPart r368.1) s371.v, oC (cSl 1 fI [65, 66]) s365.v, oC (cSl 1 fI r343) s346.v] [rV s_code.v (cSl 1 fY code)] w') ?_ ?_
        · rcases Bool.eq_false_or_eq_true r536.2 with hg671 | hg671
          · replace hx := xif_t hg671 hx
            refine gv rfl hg671 rfl (r_move rfl) ?_
            refine gv rfl hg671 rfl (r_move rfl) ?_
            refine gv rfl hg671 rfl (r_eql rfl rfl) ?_
            refine wv rfl (p_t rfl hg671 rfl) ?_
            obtain rfl := Option.some.inj hx
            exact mid_nil () ⟨rfl, rfl, rfl, trivial⟩ hM
          · replace hx := xif_f hg671 hx
            refine gs rfl (isB_no hg671) rfl ?_
            refine gs rfl (isB_no hg671) rfl ?_
            refine gs rfl (isB_no hg671) rfl ?_
            refine wv rfl (p_f rfl hg671 rfl) ?_
            obtain rfl := Option.some.inj hx
            exact mid_nil () ⟨rfl, rfl, rfl, trivial⟩ hM
        rintro _ w679 hM
        replace hx := hx675
        refine wv rfl (r_move rfl) ?_
        obtain ⟨c681, hx, hx689⟩ := bind_some' hx
        refine wl_mid 4 (fun _ : Unit => [(135, (.bool c681))]) (fun _ w' => St ⟨w, X, S⟩ [oC (cSl 1 fI r416.1) s419.v, oC (cSl 3 fDPart r404.1) s407.v, oC (cSl 1 fI r392.1) s395.v, oC (cSl 1 fI r380.1) s383.v, oC (cSl 3 fDPart r368.1) s371.v, oC (cSl 1 fI [65, 66]) s365.v, oC (cSl 1 fI r343) s346.v] [rV s_code.v (cSl 1 fY code)] w') ?_ ?_
        · rcases Bool.eq_false_or_eq_true c670 with hg682 | hg682
          · replace hx := xif_t hg682 hx
            refine gv rfl hg682 rfl (r_move rfl) ?_
            refine gv rfl hg682 rfl (r_move rfl) ?_
            obtain ⟨r692, h693, hx⟩ := bind_some' hx
            refine gc rfl hg682 rfl rfl (hM.callV fun X S oL hS hR hO => ct_impl_SignsSame _ X S r416.1 s419 r343 s346 hS (seeA hO (.head _)) (seeA hO (.tail _ (.tail _ (.tail _ (.tail _ (.tail _ (.tail _ (.head _)))))))) oL h693) ?_
            rintro _ w694 ⟨rfl, hR695⟩
            have hM := hM.call hR695
            refine wv rfl (p_t rfl hg682 rfl) ?_
            obtain rfl := Option.some.inj hx
            exact mid_nil () ⟨rfl, trivial⟩ hM
          · replace hx := xif_f hg682 hx
            refine gs rfl (isB_no hg682) rfl ?_
            refine gs rfl (isB_no hg682) rfl ?_
            refine gs rfl (isB_no hg682) rfl ?_
            refine wv rfl (p_f rfl hg682 rfl) ?_
            obtain rfl := Option.some.inj hx
            exact mid_nil () ⟨rfl, trivial⟩ hM
        rintro _ w696 hM
        replace hx := hx689
        refine wv rfl (r_assign rfl) ?_
        refine wl_nil ?_
        refine sq_n ?_
        refine wc_ret ?_
        obtain rfl := Option.some.inj hx
        refine fin_ret [(.bool c681)] ⟨rfl, trivial⟩ ?_
        replace hM := hM.t0
        have hM := hM.fewer rsN
        exact ⟨(), rfl, hM.gives⟩

end Go.Proofs.Ytdfjkipdmeomdaa
