/- Walks of functions of this program (printed by a program of ours, by the rules of the layer). No condition. -/
import Derived.Test.YtdfjkipdmeomdaaDoorGW
import Derived.Test.YtdfjkipdmeomdaaDoorNs
import Derived.Test.YtdfjkipdmeomdaaDoorNu
import Derived.Test.YtdfjkipdmeomdaaDoorNx
namespace Go.Proofs.YtdfjkipdmeomdaaDoor
open Go.RowKit

noncomputable def x_laws_FnMarks_b0 (r34 : List DMark × Bool) (r52 : List DMark × Bool) (r26 : List DMark) (k145 : Nat) (x330 : DMark) : Option (Lr Unit (Sum Unit Unit)) :=
  xg (0 ≤ (k145 : Int) ∧ (k145 : Int) < (r34.1.length : Int)) <| Option.bind (bif !decide (((el r34.1 k145).id) = (x330.id)) then (some true) else (xg (0 ≤ (k145 : Int) ∧ (k145 : Int) < (r52.1.length : Int)) <| xg (0 ≤ (k145 : Int) ∧ (k145 : Int) < (r26.length : Int)) <| some (!((decide (((el r52.1 k145).id) = (x330.id)) && decide (((el r52.1 k145).from_) = (x330.from_))) && decide (((el r52.1 k145).to) = (x330.to)))))) fun c256 => Option.bind (bif c256 then (some true) else (xg (0 ≤ (k145 : Int) ∧ (k145 : Int) < (r52.1.length : Int)) <| Option.bind (x_impl_MarkText (el r52.1 k145)) fun r312 => xg (0 ≤ (k145 : Int) ∧ (k145 : Int) < (r26.length : Int)) <| Option.bind (x_impl_MarkText x330) fun r321 => some (!decide (r312 = r321)))) fun c285 => bif c285 then (some (Lr.out (Sum.inr (())))) else (some (Lr.go ()))
noncomputable def x_laws_FnMarks_f0 (r34 : List DMark × Bool) (r52 : List DMark × Bool) (r26 : List DMark) (k145 : Nat) (_s331 : Unit) : Option (Lr Unit (Sum Unit Unit)) := x_laws_FnMarks_b0 r34 r52 r26 k145 (el r26 k145)
noncomputable def x_laws_FnMarks_b1 (r340 : List DMark × Bool) (r26 : List DMark) (k402 : Nat) : Option (Lr Unit (Sum Unit Bool)) :=
  Option.bind (x_impl_MarksAt r340.1 (k402 : Int)) fun r433 => Option.bind (x_impl_MarksAt r26 (k402 : Int)) fun r441 => xg (inI ((r441.length : Int) + 1)) <| bif !decide ((r433.length : Int) = ((r441.length : Int) + 1)) then (some (Lr.out (Sum.inr (false)))) else (some (Lr.go ()))
noncomputable def x_laws_FnMarks_f1 (r340 : List DMark × Bool) (r26 : List DMark) (k402 : Nat) (_s454 : Unit) : Option (Lr Unit (Sum Unit Bool)) := x_laws_FnMarks_b1 r340 r26 k402
noncomputable def x_laws_FnMarks (code : List UInt8) : Option Bool :=
  bif decide ((1048576 : Int) < (code.length : Int)) then (some true) else (Option.bind (x_spec_MakeOps code) fun r7 => Option.bind (x_spec_MakeMarks code (r7.1.length : Int)) fun r26 => Option.bind (x_impl_MarksMove r26 r7.2.1) fun r34 => Option.bind (x_impl_Keeping (r7.1.length : Int)) fun r47 => Option.bind (x_impl_MarksMove r26 r47) fun r52 => Option.bind (bif !r34.2 then (some true) else (some (!r52.2))) fun c65 => Option.bind (bif c65 then (some true) else (some (!decide ((r34.1.length : Int) = (r26.length : Int))))) fun c72 => Option.bind (bif c72 then (some true) else (some (!decide ((r52.1.length : Int) = (r26.length : Int))))) fun c85 => Option.bind (bif c85 then (some true) else (Option.bind (x_impl_OpTo r7.2.1) fun r113 => Option.bind (x_impl_MarksOk r34.1 r113) fun r117 => some (!r117))) fun c98 => Option.bind (bif c98 then (some true) else (Option.bind (x_impl_MarksOk r26 (r7.1.length : Int)) fun r136 => some (!r136))) fun c123 => bif c123 then (some false) else (Option.bind (eachN (x_laws_FnMarks_f0 r34 r52 r26) (fun (_s331 : Unit) => (Sum.inl () : Sum Unit Unit)) r26.length 0 ()) fun (y332 : Sum Unit Unit) => Sum.elim (fun _y333 => Option.bind (x_impl_MarkAdd r26 (r7.1.length : Int) 99 0 (r7.1.length : Int)) fun r340 => Option.bind (bif !r340.2 then (some true) else (Option.bind (x_impl_MarkedAll r340.1 (r7.1.length : Int)) fun r368 => some (!decide (r368 = (r7.1.length : Int))))) fun c353 => Option.bind (bif c353 then (some true) else (Option.bind (x_impl_MarkDrop r340.1 99) fun r389 => some (!decide ((r389.length : Int) = (r26.length : Int))))) fun c376 => bif c376 then (some false) else (Option.bind (eachN (x_laws_FnMarks_f1 r340 r26) (fun (_s454 : Unit) => (Sum.inl () : Sum Unit Bool)) r7.1.length 0 ()) fun (y455 : Sum Unit Bool) => Sum.elim (fun _y456 => Option.bind (x_impl_MarkedAll r26 (r7.1.length : Int)) fun r461 => some (decide (r461 ≤ (r7.1.length : Int)))) (fun y457 => some y457) y455)) (fun _y334 => some false) y332))
theorem ct_laws_FnMarks (w : World) (X S : Bs) (code : List UInt8) (s_code : Sv) (hS : ∀ b, S b → b < w.heap.size ∧ ¬ X b) (hT : rTab.ok S w) (a_code_0 : (cSl 1 fY code).rd S w s_code.v) (oL : Sep [] X w) {r : Bool} (hx : x_laws_FnMarks code = some r) :
  Ret Tryd.prog 4 [s_code.v] w (fun u w' => ∃ _ : Unit, u = (.bool r) ∧ Gives X S w [] [] w') := by
 unfold x_laws_FnMarks at hx
 refine enter Tryd.func4 rfl Tryd.ntmps4 (by kernel_rfl) rfl ?_
 have hM := St.enter oL hS
 have hM := hM.addE (r := rTab) hT
 have hM := hM.addE (r := rV s_code.v (cSl 1 fY code)) a_code_0
 refine wc_sr ?_
 refine was rfl rfl ?_
 refine wl_sq ?_
 refine wc_seq ?_
 refine wc_sr ?_
 refine wmv rfl rfl ?_
 refine wv rfl (r_lenC Tryd.underlying28 rfl (hM.seeR (.head _))) ?_
 refine wv rfl (r_gtr rfl rfl) ?_
 refine wl_sq ?_
 refine wc_cond rfl (fun hc473 => ?_) (fun hc473 => ?_)
 ·
  replace hx := xif_t hc473 hx
  refine wc_sr ?_
  refine was rfl rfl ?_
  refine wl_sq ?_
  refine wc_ret ?_
  refine sq_ret ?_
  obtain rfl := Option.some.inj hx
  refine fin_ret [(.bool true)] ⟨rfl, trivial⟩ ?_
  replace hM := hM.t0
  have hM := hM.fewer rsN
  exact ⟨(), rfl, hM.gives⟩
 ·
  replace hx := xif_f hc473 hx
  refine wc_skip ?_
  refine sq_n ?_
  refine wc_sr ?_
  refine wmv rfl rfl ?_
  obtain ⟨r476, h477, hx⟩ := bind_some' hx
  refine w_call rfl rfl (hM.callO (l := []) fun X S oL hS hR hO => ct_spec_MakeOps _ X S code s_code hS (hR _ (.head _)) oL h477) ?_
  rintro _ w478 ⟨⟨s479, s480, s481⟩, rfl, hM⟩
  dsimp only [List.cons_append, List.nil_append] at hM
  refine wmv rfl rfl ?_
  refine wv rfl (r_extract rfl rfl) ?_
  refine wv rfl (r_extract rfl rfl) ?_
  refine wv rfl (r_extract rfl rfl) ?_
  refine was rfl rfl ?_
  refine was rfl rfl ?_
  refine was rfl rfl ?_
  refine wl_sq ?_
  refine wc_sr ?_
  refine wmv rfl rfl ?_
  refine wmv rfl rfl ?_
  refine wv rfl (r_lenC Tryd.underlying29 rfl (hM.seeO (.head _))) ?_
  obtain ⟨r495, h496, hx⟩ := bind_some' hx
  refine w_call rfl rfl (hM.callO (l := []) fun X S oL hS hR hO => ct_spec_MakeMarks _ X S code s_code (r476.1.length : Int) hS (hR _ (.head _)) oL h496) ?_
  rintro _ w497 ⟨s498, rfl, hM⟩
  dsimp only [List.cons_append, List.nil_append] at hM
  refine was rfl rfl ?_
  refine wl_sq ?_
  refine wc_sr ?_
  refine wmv rfl rfl ?_
  refine wmv rfl rfl ?_
  obtain ⟨r503, h504, hx⟩ := bind_some' hx
  refine w_call rfl rfl (hM.callO (l := []) fun X S oL hS hR hO => ct_impl_MarksMove _ X S r495 s498 r476.2.1 s480 hS (seeA hO (.head _)) (seeA hO (.tail _ (.tail _ (.head _)))) oL h504) ?_
  rintro _ w505 ⟨s506, rfl, hM⟩
  dsimp only [List.cons_append, List.nil_append] at hM
  refine wmv rfl rfl ?_
  refine wv rfl (r_extract rfl rfl) ?_
  refine wv rfl (r_extract rfl rfl) ?_
  refine was rfl rfl ?_
  refine was rfl rfl ?_
  refine wl_sq ?_
  refine wc_sr ?_
  refine wmv rfl rfl ?_
  refine wmv rfl rfl ?_
  refine wv rfl (r_lenC Tryd.underlying29 rfl (hM.seeO (.tail _ (.tail _ (.head _))))) ?_
  obtain ⟨r516, h517, hx⟩ := bind_some' hx
  refine w_call rfl rfl (hM.callO (l := []) fun X S oL hS hR hO => ct_impl_Keeping _ X S (r476.1.length : Int) hS  oL h517) ?_
  rintro _ w518 ⟨s519, rfl, hM⟩
  dsimp only [List.cons_append, List.nil_append] at hM
  obtain ⟨r521, h522, hx⟩ := bind_some' hx
  refine w_call rfl rfl (hM.callO (l := []) fun X S oL hS hR hO => ct_impl_MarksMove _ X S r495 s498 r516 s519 hS (seeA hO (.tail _ (.tail _ (.head _)))) (seeA hO (.head _)) oL h522) ?_
  rintro _ w523 ⟨s524, rfl, hM⟩
  dsimp only [List.cons_append, List.nil_append] at hM
  refine wmv rfl rfl ?_
  refine wv rfl (r_extract rfl rfl) ?_
  refine wv rfl (r_extract rfl rfl) ?_
  refine was rfl rfl ?_
  refine was rfl rfl ?_
  refine wl_sq ?_
  refine wc_seq ?_
  refine wc_sr ?_
  refine wmv rfl rfl ?_
  refine wv rfl (r_not rfl) ?_
  refine wmv rfl rfl ?_
  obtain ⟨c534, hx, hx538⟩ := bind_some' hx
  refine wl_mid 3 (fun _ : Unit => [(47, (.bool c534)), (3, s479.v), (4, s480.v), (6, s498.v), (7, s506.v), (9, s524.v)]) (fun _ w' => St ⟨w, X, S⟩ [oC (cSl 3 fDMark r521.1) s524.v, oC (cSl 3 fDPart r516) s519.v, oC (cSl 3 fDMark r503.1) s506.v, oC (cSl 3 fDMark r495) s498.v, oC (cSl 1 fI r476.1) s479.v, oC (cSl 3 fDPart r476.2.1) s480.v, oC (cSl 3 fDPart r476.2.2) s481.v] [rV s_code.v (cSl 1 fY code), rTab] w') ?_ ?_
  ·
   rcases Bool.eq_false_or_eq_true (!r503.2) with hg535 | hg535
   ·
    replace hx := xif_t hg535 hx
    refine gs rfl (isB_no hg535) rfl ?_
    refine gs rfl (isB_no hg535) rfl ?_
    refine wv rfl (p_t rfl hg535 rfl) ?_
    obtain rfl := Option.some.inj hx
    exact mid_nil () ⟨rfl, rfl, rfl, rfl, rfl, rfl, trivial⟩ hM
   ·
    replace hx := xif_f hg535 hx
    refine gv rfl hg535 rfl (r_move rfl) ?_
    refine gv rfl hg535 rfl (r_not rfl) ?_
    refine wv rfl (p_f rfl hg535 rfl) ?_
    obtain rfl := Option.some.inj hx
    exact mid_nil () ⟨rfl, rfl, rfl, rfl, rfl, rfl, trivial⟩ hM
  rintro _ w541 hM
  replace hx := hx538
  refine wmv rfl rfl ?_
  obtain ⟨c543, hx, hx550⟩ := bind_some' hx
  refine wl_mid 6 (fun _ : Unit => [(54, (.bool c543)), (3, s479.v), (4, s480.v), (6, s498.v), (7, s506.v), (9, s524.v)]) (fun _ w' => St ⟨w, X, S⟩ [oC (cSl 3 fDMark r521.1) s524.v, oC (cSl 3 fDPart r516) s519.v, oC (cSl 3 fDMark r503.1) s506.v, oC (cSl 3 fDMark r495) s498.v, oC (cSl 1 fI r476.1) s479.v, oC (cSl 3 fDPart r476.2.1) s480.v, oC (cSl 3 fDPart r476.2.2) s481.v] [rV s_code.v (cSl 1 fY code), rTab] w') ?_ ?_
  ·
   rcases Bool.eq_false_or_eq_true c534 with hg544 | hg544
   ·
    replace hx := xif_t hg544 hx
    refine gs rfl (isB_no hg544) rfl ?_
    refine gs rfl (isB_no hg544) rfl ?_
    refine gs rfl (isB_no hg544) rfl ?_
    refine gs rfl (isB_no hg544) rfl ?_
    refine gs rfl (isB_no hg544) rfl ?_
    refine wv rfl (p_t rfl hg544 rfl) ?_
    obtain rfl := Option.some.inj hx
    exact mid_nil () ⟨rfl, rfl, rfl, rfl, rfl, rfl, trivial⟩ hM
   ·
    replace hx := xif_f hg544 hx
    refine gv rfl hg544 rfl (r_move rfl) ?_
    refine gv rfl hg544 rfl (r_lenC Tryd.underlying33 rfl (hM.seeO (.tail _ (.tail _ (.head _))))) ?_
    refine gv rfl hg544 rfl (r_move rfl) ?_
    refine gv rfl hg544 rfl (r_lenC Tryd.underlying33 rfl (hM.seeO (.tail _ (.tail _ (.tail _ (.head _)))))) ?_
    refine gv rfl hg544 rfl (r_neq rfl rfl) ?_
    refine wv rfl (p_f rfl hg544 rfl) ?_
    obtain rfl := Option.some.inj hx
    exact mid_nil () ⟨rfl, rfl, rfl, rfl, rfl, rfl, trivial⟩ hM
  rintro _ w556 hM
  replace hx := hx550
  refine wmv rfl rfl ?_
  obtain ⟨c558, hx, hx565⟩ := bind_some' hx
  refine wl_mid 6 (fun _ : Unit => [(61, (.bool c558)), (3, s479.v), (4, s480.v), (6, s498.v), (7, s506.v), (9, s524.v)]) (fun _ w' => St ⟨w, X, S⟩ [oC (cSl 3 fDMark r521.1) s524.v, oC (cSl 3 fDPart r516) s519.v, oC (cSl 3 fDMark r503.1) s506.v, oC (cSl 3 fDMark r495) s498.v, oC (cSl 1 fI r476.1) s479.v, oC (cSl 3 fDPart r476.2.1) s480.v, oC (cSl 3 fDPart r476.2.2) s481.v] [rV s_code.v (cSl 1 fY code), rTab] w') ?_ ?_
  ·
   rcases Bool.eq_false_or_eq_true c543 with hg559 | hg559
   ·
    replace hx := xif_t hg559 hx
    refine gs rfl (isB_no hg559) rfl ?_
    refine gs rfl (isB_no hg559) rfl ?_
    refine gs rfl (isB_no hg559) rfl ?_
    refine gs rfl (isB_no hg559) rfl ?_
    refine gs rfl (isB_no hg559) rfl ?_
    refine wv rfl (p_t rfl hg559 rfl) ?_
    obtain rfl := Option.some.inj hx
    exact mid_nil () ⟨rfl, rfl, rfl, rfl, rfl, rfl, trivial⟩ hM
   ·
    replace hx := xif_f hg559 hx
    refine gv rfl hg559 rfl (r_move rfl) ?_
    refine gv rfl hg559 rfl (r_lenC Tryd.underlying33 rfl (hM.seeO (.head _))) ?_
    refine gv rfl hg559 rfl (r_move rfl) ?_
    refine gv rfl hg559 rfl (r_lenC Tryd.underlying33 rfl (hM.seeO (.tail _ (.tail _ (.tail _ (.head _)))))) ?_
    refine gv rfl hg559 rfl (r_neq rfl rfl) ?_
    refine wv rfl (p_f rfl hg559 rfl) ?_
    obtain rfl := Option.some.inj hx
    exact mid_nil () ⟨rfl, rfl, rfl, rfl, rfl, rfl, trivial⟩ hM
  rintro _ w571 hM
  replace hx := hx565
  refine wmv rfl rfl ?_
  obtain ⟨c573, hx, hx586⟩ := bind_some' hx
  refine wl_mid 6 (fun _ : Unit => [(68, (.bool c573)), (3, s479.v), (6, s498.v), (7, s506.v), (9, s524.v)]) (fun _ w' => St ⟨w, X, S⟩ [oC (cSl 3 fDMark r521.1) s524.v, oC (cSl 3 fDPart r516) s519.v, oC (cSl 3 fDMark r503.1) s506.v, oC (cSl 3 fDMark r495) s498.v, oC (cSl 1 fI r476.1) s479.v, oC (cSl 3 fDPart r476.2.1) s480.v, oC (cSl 3 fDPart r476.2.2) s481.v] [rV s_code.v (cSl 1 fY code), rTab] w') ?_ ?_
  ·
   rcases Bool.eq_false_or_eq_true c558 with hg574 | hg574
   ·
    replace hx := xif_t hg574 hx
    refine gs rfl (isB_no hg574) rfl ?_
    refine gs rfl (isB_no hg574) rfl ?_
    refine gs rfl (isB_no hg574) rfl ?_
    refine gs rfl (isB_no hg574) rfl ?_
    refine gs rfl (isB_no hg574) rfl ?_
    refine wv rfl (p_t rfl hg574 rfl) ?_
    obtain rfl := Option.some.inj hx
    exact mid_nil () ⟨rfl, rfl, rfl, rfl, rfl, trivial⟩ hM
   ·
    replace hx := xif_f hg574 hx
    refine gv rfl hg574 rfl (r_move rfl) ?_
    refine gv rfl hg574 rfl (r_move rfl) ?_
    obtain ⟨r589, h590, hx⟩ := bind_some' hx
    refine gc rfl hg574 rfl rfl (hM.callV fun X S oL hS hR hO => ct_impl_OpTo _ X S r476.2.1 s480 hS (seeA hO (.tail _ (.tail _ (.tail _ (.tail _ (.tail _ (.head _))))))) oL h590) ?_
    rintro _ w591 ⟨rfl, hR592⟩
    have hM := hM.call hR592
    obtain ⟨r593, h594, hx⟩ := bind_some' hx
    refine gc rfl hg574 rfl rfl (hM.callV fun X S oL hS hR hO => ct_impl_MarksOk _ X S r503.1 s506 r589 hS (seeA hO (.tail _ (.tail _ (.head _)))) oL h594) ?_
    rintro _ w595 ⟨rfl, hR596⟩
    have hM := hM.call hR596
    refine gv rfl hg574 rfl (r_not rfl) ?_
    refine wv rfl (p_f rfl hg574 rfl) ?_
    obtain rfl := Option.some.inj hx
    exact mid_nil () ⟨rfl, rfl, rfl, rfl, rfl, trivial⟩ hM
  rintro _ w598 hM
  replace hx := hx586
  refine wmv rfl rfl ?_
  obtain ⟨c600, hx, hx610⟩ := bind_some' hx
  refine wl_mid 6 (fun _ : Unit => [(75, (.bool c600)), (3, s479.v), (6, s498.v), (7, s506.v), (9, s524.v)]) (fun _ w' => St ⟨w, X, S⟩ [oC (cSl 3 fDMark r521.1) s524.v, oC (cSl 3 fDPart r516) s519.v, oC (cSl 3 fDMark r503.1) s506.v, oC (cSl 3 fDMark r495) s498.v, oC (cSl 1 fI r476.1) s479.v, oC (cSl 3 fDPart r476.2.1) s480.v, oC (cSl 3 fDPart r476.2.2) s481.v] [rV s_code.v (cSl 1 fY code), rTab] w') ?_ ?_
  ·
   rcases Bool.eq_false_or_eq_true c573 with hg601 | hg601
   ·
    replace hx := xif_t hg601 hx
    refine gs rfl (isB_no hg601) rfl ?_
    refine gs rfl (isB_no hg601) rfl ?_
    refine gs rfl (isB_no hg601) rfl ?_
    refine gs rfl (isB_no hg601) rfl ?_
    refine gs rfl (isB_no hg601) rfl ?_
    refine wv rfl (p_t rfl hg601 rfl) ?_
    obtain rfl := Option.some.inj hx
    exact mid_nil () ⟨rfl, rfl, rfl, rfl, rfl, trivial⟩ hM
   ·
    replace hx := xif_f hg601 hx
    refine gv rfl hg601 rfl (r_move rfl) ?_
    refine gv rfl hg601 rfl (r_move rfl) ?_
    refine gv rfl hg601 rfl (r_lenC Tryd.underlying29 rfl (hM.seeO (.tail _ (.tail _ (.tail _ (.tail _ (.head _))))))) ?_
    obtain ⟨r614, h615, hx⟩ := bind_some' hx
    refine gc rfl hg601 rfl rfl (hM.callV fun X S oL hS hR hO => ct_impl_MarksOk _ X S r495 s498 (r476.1.length : Int) hS (seeA hO (.tail _ (.tail _ (.tail _ (.head _))))) oL h615) ?_
    rintro _ w616 ⟨rfl, hR617⟩
    have hM := hM.call hR617
    refine gv rfl hg601 rfl (r_not rfl) ?_
    refine wv rfl (p_f rfl hg601 rfl) ?_
    obtain rfl := Option.some.inj hx
    exact mid_nil () ⟨rfl, rfl, rfl, rfl, rfl, trivial⟩ hM
  rintro _ w619 hM
  replace hx := hx610
  refine wl_sq ?_
  refine wc_cond rfl (fun hc620 => ?_) (fun hc620 => ?_)
  ·
   replace hx := xif_t hc620 hx
   refine wc_sr ?_
   refine was rfl rfl ?_
   refine wl_sq ?_
   refine wc_ret ?_
   refine sq_ret ?_
   obtain rfl := Option.some.inj hx
   refine fin_ret [(.bool false)] ⟨rfl, trivial⟩ ?_
   replace hM := hM.t0
   have hM := hM.fewer rsN
   exact ⟨(), rfl, hM.gives⟩
  ·
   replace hx := xif_f hc620 hx
   refine wc_skip ?_
   refine sq_n ?_
   refine wc_seq ?_
   refine wc_sr ?_
   refine wmv rfl rfl ?_
   refine wv rfl (r_lenC Tryd.underlying33 rfl (hM.seeO (.tail _ (.tail _ (.tail _ (.head _)))))) ?_
   refine wmv rfl rfl ?_
   refine wl_sq ?_
   refine wc_block ?_
   obtain ⟨y625, hx, hx626⟩ := bind_some' hx
   replace hM := hM.p2.p3.p4
   replace hM := hM.t4
   have hM := hM.fewer (rsC (.tail _ (.head _)) rsN)
   replace hM : St ⟨w, X, S⟩ [oC (cSl 1 fI r476.1) s479.v, oC (cSl 3 fDMark r495) s498.v, oC (cSl 3 fDMark r503.1) s506.v, oC (cSl 3 fDMark r521.1) s524.v] [rTab] _ := hM
   have hl630 := Cs.le (hM.seeO (.tail _ (.head _)))
   refine wc_loop (un fun (m627 : Nat) => fun (k628 : Nat) => [(3, s479.v), (6, s498.v), (7, s506.v), (9, s524.v), (77, (.int .i64 (r495.length : Int))), (78, (.int .i64 (k628 : Int)))]) (un fun (m627 : Nat) => fun (k628 : Nat) w' => St ⟨w, X, S⟩ [oC (cSl 1 fI r476.1) s479.v, oC (cSl 3 fDMark r495) s498.v, oC (cSl 3 fDMark r503.1) s506.v, oC (cSl 3 fDMark r521.1) s524.v] [rTab] w' ∧ eachN _ _ m627 k628 () = some y625 ∧ k628 + m627 = r495.length) (fun p => p.1) (r495.length, 0) ⟨rfl, rfl, rfl, rfl, rfl, rfl, trivial⟩ ⟨hM, hx, Nat.zero_add _⟩ ?_
   rintro ⟨m627, k628⟩ w631 ⟨hM, hx, hk629⟩
   refine wc_sr ?_
   refine wv rfl (r_lss rfl rfl) ?_
   refine wl_sq ?_
   refine wc_seq ?_
   refine wc_cond rfl (fun hc633 => ?_) (fun hc633 => ?_)
   ·
    replace hc633 := of_decide_eq_true hc633
    obtain ⟨m634, z635, rfl, hk629, hx, hx636⟩ := eachN_step hx hk629 hc633
    unfold x_laws_FnMarks_f0 x_laws_FnMarks_b0 at hx
    try dsimp only at hx
    refine wc_skip ?_
    refine sq_n ?_
    refine wc_seq ?_
    refine wc_block ?_
    refine wc_sr ?_
    refine wmv rfl rfl ?_
    refine was rfl rfl ?_
    refine wl_sq ?_
    refine wc_seq ?_
    refine wc_draw [(0, 0), (1, 0), (2, 0), (3, 0), (4, 0), (5, 0), (6, 0), (7, 0), (8, 0), (9, 0), (10, 0), (11, 0), (12, 0), (13, 0), (14, 0), (15, 0), (16, 0), (17, 0), (18, 0), (19, 0), (20, 0), (21, 0), (22, 0), (23, 0), (24, 0), (25, 0), (26, 0), (27, 0), (28, 0), (29, 0), (30, 0), (31, 0), (32, 0), (33, 0), (34, 0)] Tryd_mixed (by kernel_rfl) rfl (by kernel_rfl) rfl ?_
    refine omv rfl rfl ?_
    refine omv rfl rfl ?_
    obtain ⟨hg643, hx⟩ := xg_some hx
    have hi642 : k628 < r503.1.length := by omega
    refine ov rfl (fun w' h' => r_ixC Tryd.underlying33 sz25 rfl rfl ((hM.call h').seeO (.tail _ (.tail _ (.head _)))) hg643) ?_
    refine ov rfl (fun w' h' => r_fldC (i := k628) Tryd.underlying25 rfl rfl sz3 rfl ((hM.call h').seeO (.tail _ (.tail _ (.head _)))) hi642) ?_
    refine ov rfl (fun w' h' => r_ld Tryd.underlying3 rfl rfl (Cs.get (i := k628) (j := 0) ((hM.call h').seeO (.tail _ (.tail _ (.head _)))) (fun _ => rfl) hi642 rfl)) ?_
    refine omv rfl rfl ?_
    refine omv rfl rfl ?_
    have hi649 : k628 < r495.length := by omega
    refine ov rfl (fun w' h' => r_ixC Tryd.underlying33 sz25 rfl rfl ((hM.call h').seeO (.tail _ (.head _))) ⟨by omega, hc633⟩) ?_
    refine ov rfl (fun w' h' => r_fldC (i := k628) Tryd.underlying25 rfl rfl sz3 rfl ((hM.call h').seeO (.tail _ (.head _))) hi649) ?_
    refine ov rfl (fun w' h' => r_ld Tryd.underlying3 rfl rfl (Cs.get (i := k628) (j := 0) ((hM.call h').seeO (.tail _ (.head _))) (fun _ => rfl) hi649 rfl)) ?_
    refine ov rfl (fun w' h' => r_neq rfl rfl) ?_
    refine omv rfl rfl ?_
    obtain ⟨c654, hx, hx669⟩ := bind_some' hx
    refine wo_mid 10 [(102, (.bool c654)), (3, s479.v), (6, s498.v), (7, s506.v), (9, s524.v), (11, (.int .i64 (k628 : Int))), (77, (.int .i64 (r495.length : Int))), (78, (.int .i64 (k628 : Int)))] rfl ?_ ?_
    ·
     rcases Bool.eq_false_or_eq_true (!decide (((el r503.1 k628).id) = ((el r495 k628).id))) with hg655 | hg655
     ·
      replace hx := xif_t hg655 hx
      refine ogs rfl (isB_no hg655) rfl ?_
      refine ogs rfl (isB_no hg655) rfl ?_
      refine ogs rfl (isB_no hg655) rfl ?_
      refine ogs rfl (isB_no hg655) rfl ?_
      refine ogs rfl (isB_no hg655) rfl ?_
      refine ogs rfl (isB_no hg655) rfl ?_
      refine ogs rfl (isB_no hg655) rfl ?_
      refine ogs rfl (isB_no hg655) rfl ?_
      refine ogs rfl (isB_no hg655) rfl ?_
      refine ov rfl (fun w' h' => p_t rfl hg655 rfl) ?_
      obtain rfl := Option.some.inj hx
      exact mid_onil ⟨rfl, rfl, rfl, rfl, rfl, rfl, rfl, rfl, trivial⟩
     ·
      replace hx := xif_f hg655 hx
      refine ogv rfl hg655 rfl (fun w' h' => r_move rfl) ?_
      refine ogv rfl hg655 rfl (fun w' h' => r_move rfl) ?_
      obtain ⟨hg674, hx⟩ := xg_some hx
      have hi673 : k628 < r521.1.length := by omega
      refine ogv rfl hg655 rfl (fun w' h' => r_ixC Tryd.underlying33 sz25 rfl rfl ((hM.call h').seeO (.tail _ (.tail _ (.tail _ (.head _))))) hg674) ?_
      refine ogv rfl hg655 rfl (fun w' h' => r_ldC (o := k628 * 3) Tryd.underlying25 sz25 rfl (us := [(.int .i64 ((el r521.1 k628).id)), (.int .i64 ((el r521.1 k628).from_)), (.int .i64 ((el r521.1 k628).to))]) rfl ((hM.call h').seeO (.tail _ (.tail _ (.tail _ (.head _))))) hi673 ⟨(Cs.get (i := k628) (j := 0) ((hM.call h').seeO (.tail _ (.tail _ (.tail _ (.head _))))) (fun _ => rfl) hi673 rfl), (Cs.get (i := k628) (j := 1) ((hM.call h').seeO (.tail _ (.tail _ (.tail _ (.head _))))) (fun _ => rfl) hi673 rfl), (Cs.get (i := k628) (j := 2) ((hM.call h').seeO (.tail _ (.tail _ (.tail _ (.head _))))) (fun _ => rfl) hi673 rfl), trivial⟩) ?_
      refine ogv rfl hg655 rfl (fun w' h' => r_move rfl) ?_
      refine ogv rfl hg655 rfl (fun w' h' => r_move rfl) ?_
      obtain ⟨hg680, hx⟩ := xg_some hx
      have hi679 : k628 < r495.length := by omega
      refine ogv rfl hg655 rfl (fun w' h' => r_ixC Tryd.underlying33 sz25 rfl rfl ((hM.call h').seeO (.tail _ (.head _))) hg680) ?_
      refine ogv rfl hg655 rfl (fun w' h' => r_ldC (o := k628 * 3) Tryd.underlying25 sz25 rfl (us := [(.int .i64 ((el r495 k628).id)), (.int .i64 ((el r495 k628).from_)), (.int .i64 ((el r495 k628).to))]) rfl ((hM.call h').seeO (.tail _ (.head _))) hi679 ⟨(Cs.get (i := k628) (j := 0) ((hM.call h').seeO (.tail _ (.head _))) (fun _ => rfl) hi679 rfl), (Cs.get (i := k628) (j := 1) ((hM.call h').seeO (.tail _ (.head _))) (fun _ => rfl) hi679 rfl), (Cs.get (i := k628) (j := 2) ((hM.call h').seeO (.tail _ (.head _))) (fun _ => rfl) hi679 rfl), trivial⟩) ?_
      refine ogv rfl hg655 rfl (fun w' h' => r_neq3 (by kernel_rfl) (by kernel_rfl) (by kernel_rfl) (e := 3) (by kernel_rfl) Tryd.underlying3 rfl rfl) ?_
      refine ov rfl (fun w' h' => p_f rfl hg655 rfl) ?_
      obtain rfl := Option.some.inj hx
      exact mid_onil ⟨rfl, rfl, rfl, rfl, rfl, rfl, rfl, rfl, trivial⟩
    replace hx := hx669
    refine omv rfl rfl ?_
    obtain ⟨c684, hx, hx705⟩ := bind_some' hx
    refine wo_mid 12 [(115, (.bool c684)), (3, s479.v), (6, s498.v), (7, s506.v), (9, s524.v), (77, (.int .i64 (r495.length : Int))), (78, (.int .i64 (k628 : Int)))] rfl ?_ ?_
    ·
     rcases Bool.eq_false_or_eq_true c654 with hg685 | hg685
     ·
      replace hx := xif_t hg685 hx
      refine ogs rfl (isB_no hg685) rfl ?_
      refine ogs rfl (isB_no hg685) rfl ?_
      refine ogs rfl (isB_no hg685) rfl ?_
      refine ogs rfl (isB_no hg685) rfl ?_
      refine ogs rfl (isB_no hg685) rfl ?_
      refine ogs rfl (isB_no hg685) rfl ?_
      refine ogs rfl (isB_no hg685) rfl ?_
      refine ogs rfl (isB_no hg685) rfl ?_
      refine ogs rfl (isB_no hg685) rfl ?_
      refine ogs rfl (isB_no hg685) rfl ?_
      refine ogs rfl (isB_no hg685) rfl ?_
      refine ov rfl (fun w' h' => p_t rfl hg685 rfl) ?_
      obtain rfl := Option.some.inj hx
      exact mid_onil ⟨rfl, rfl, rfl, rfl, rfl, rfl, rfl, trivial⟩
     ·
      replace hx := xif_f hg685 hx
      refine ogv rfl hg685 rfl (fun w' h' => r_move rfl) ?_
      refine ogv rfl hg685 rfl (fun w' h' => r_move rfl) ?_
      obtain ⟨hg710, hx⟩ := xg_some hx
      have hi709 : k628 < r521.1.length := by omega
      refine ogv rfl hg685 rfl (fun w' h' => r_ixC Tryd.underlying33 sz25 rfl rfl ((hM.call h').seeO (.tail _ (.tail _ (.tail _ (.head _))))) hg710) ?_
      refine ogv rfl hg685 rfl (fun w' h' => r_ldC (o := k628 * 3) Tryd.underlying25 sz25 rfl (us := [(.int .i64 ((el r521.1 k628).id)), (.int .i64 ((el r521.1 k628).from_)), (.int .i64 ((el r521.1 k628).to))]) rfl ((hM.call h').seeO (.tail _ (.tail _ (.tail _ (.head _))))) hi709 ⟨(Cs.get (i := k628) (j := 0) ((hM.call h').seeO (.tail _ (.tail _ (.tail _ (.head _))))) (fun _ => rfl) hi709 rfl), (Cs.get (i := k628) (j := 1) ((hM.call h').seeO (.tail _ (.tail _ (.tail _ (.head _))))) (fun _ => rfl) hi709 rfl), (Cs.get (i := k628) (j := 2) ((hM.call h').seeO (.tail _ (.tail _ (.tail _ (.head _))))) (fun _ => rfl) hi709 rfl), trivial⟩) ?_
      obtain ⟨r712, h713, hx⟩ := bind_some' hx
      refine ogc rfl hg685 rfl rfl (fun w' h' => (hM.call h').callV fun X S oL hS hR hO => ct_impl_MarkText _ X S (el r521.1 k628) hS (hR _ (.head _)) oL h713) ?_
      refine ogv rfl hg685 rfl (fun w' h' => r_move rfl) ?_
      refine ogv rfl hg685 rfl (fun w' h' => r_move rfl) ?_
      obtain ⟨hg719, hx⟩ := xg_some hx
      have hi718 : k628 < r495.length := by omega
      refine ogv rfl hg685 rfl (fun w' h' => r_ixC Tryd.underlying33 sz25 rfl rfl ((hM.call h').seeO (.tail _ (.head _))) hg719) ?_
      refine ogv rfl hg685 rfl (fun w' h' => r_ldC (o := k628 * 3) Tryd.underlying25 sz25 rfl (us := [(.int .i64 ((el r495 k628).id)), (.int .i64 ((el r495 k628).from_)), (.int .i64 ((el r495 k628).to))]) rfl ((hM.call h').seeO (.tail _ (.head _))) hi718 ⟨(Cs.get (i := k628) (j := 0) ((hM.call h').seeO (.tail _ (.head _))) (fun _ => rfl) hi718 rfl), (Cs.get (i := k628) (j := 1) ((hM.call h').seeO (.tail _ (.head _))) (fun _ => rfl) hi718 rfl), (Cs.get (i := k628) (j := 2) ((hM.call h').seeO (.tail _ (.head _))) (fun _ => rfl) hi718 rfl), trivial⟩) ?_
      obtain ⟨r721, h722, hx⟩ := bind_some' hx
      refine ogc rfl hg685 rfl rfl (fun w' h' => (hM.call h').callV fun X S oL hS hR hO => ct_impl_MarkText _ X S (el r495 k628) hS (hR _ (.head _)) oL h722) ?_
      refine ogv rfl hg685 rfl (fun w' h' => r_neqs rfl rfl) ?_
      refine ov rfl (fun w' h' => p_f rfl hg685 rfl) ?_
      obtain rfl := Option.some.inj hx
      exact mid_onil ⟨rfl, rfl, rfl, rfl, rfl, rfl, rfl, trivial⟩
    replace hx := hx705
    refine o_nilM hM fun w725 hM => ?_
    refine sq_n ?_
    refine wc_cond rfl (fun hc727 => ?_) (fun hc727 => ?_)
    ·
     replace hx := xif_t hc727 hx
     refine wc_sr ?_
     refine was rfl rfl ?_
     refine wl_sq ?_
     refine wc_ret ?_
     refine bk_ret ?_
     refine sq_ret ?_
     refine lp1_ret ?_
     obtain rfl := Option.some.inj hx
     obtain rfl := Option.some.inj hx636
     replace hx := hx626
     try dsimp only [Sum.elim_inl, Sum.elim_inr] at hx
     refine bk_ret ?_
     refine sq_ret ?_
     obtain rfl := Option.some.inj hx
     refine fin_ret [(.bool false)] ⟨rfl, trivial⟩ ?_
     replace hM := hM.t0
     have hM := hM.fewer rsN
     exact ⟨(), rfl, hM.gives⟩
    ·
     replace hx := xif_f hc727 hx
     refine wc_skip ?_
     refine bk_n ?_
     refine sq_n ?_
     refine wc_region ?_
     refine wv rfl (r_add rfl rfl ⟨by omega, by omega⟩) ?_
     refine wmv rfl rfl ?_
     refine wl_nil ?_
     obtain rfl := Option.some.inj hx
     exact lp_end (m634, k628 + 1) (Nat.lt_succ_self _) ⟨rfl, rfl, rfl, rfl, rfl, rfl, trivial⟩ ⟨hM, hx636, hk629⟩
   ·
    replace hc633 := of_decide_eq_false hc633
    obtain rfl := eachN_end hx hk629 hc633
    refine wc_exit ?_
    refine sq_exit ?_
    refine lp1_exit ?_
    replace hx := hx626
    try dsimp only [Sum.elim_inl, Sum.elim_inr] at hx
    refine bk_here ?_
    refine sq_n ?_
    refine wc_sr ?_
    refine wmv rfl rfl ?_
    refine wmv rfl rfl ?_
    refine wv rfl (r_lenC Tryd.underlying29 rfl (hM.seeO (.head _))) ?_
    refine wmv rfl rfl ?_
    refine wv rfl (r_lenC Tryd.underlying29 rfl (hM.seeO (.head _))) ?_
    obtain ⟨r736, h737, hx⟩ := bind_some' hx
    refine w_call rfl rfl (hM.callO (l := []) fun X S oL hS hR hO => ct_impl_MarkAdd _ X S r495 s498 (r476.1.length : Int) (99 : Int) (0 : Int) (r476.1.length : Int) hS (seeA hO (.tail _ (.head _))) oL h737) ?_
    rintro _ w738 ⟨s739, rfl, hM⟩
    dsimp only [List.cons_append, List.nil_append] at hM
    refine wmv rfl rfl ?_
    refine wv rfl (r_extract rfl rfl) ?_
    refine wv rfl (r_extract rfl rfl) ?_
    refine was rfl rfl ?_
    refine was rfl rfl ?_
    refine wl_sq ?_
    refine wc_seq ?_
    refine wc_sr ?_
    refine wmv rfl rfl ?_
    refine wv rfl (r_not rfl) ?_
    refine wmv rfl rfl ?_
    obtain ⟨c749, hx, hx761⟩ := bind_some' hx
    refine wl_mid 8 (fun _ : Unit => [(136, (.bool c749)), (3, s479.v), (6, s498.v), (12, s739.v)]) (fun _ w' => St ⟨w, X, S⟩ [oC (cSl 3 fDMark r736.1) s739.v, oC (cSl 1 fI r476.1) s479.v, oC (cSl 3 fDMark r495) s498.v, oC (cSl 3 fDMark r503.1) s506.v, oC (cSl 3 fDMark r521.1) s524.v] [rTab] w') ?_ ?_
    ·
     rcases Bool.eq_false_or_eq_true (!r736.2) with hg750 | hg750
     ·
      replace hx := xif_t hg750 hx
      refine gs rfl (isB_no hg750) rfl ?_
      refine gs rfl (isB_no hg750) rfl ?_
      refine gs rfl (isB_no hg750) rfl ?_
      refine gs rfl (isB_no hg750) rfl ?_
      refine gs rfl (isB_no hg750) rfl ?_
      refine gs rfl (isB_no hg750) rfl ?_
      refine gs rfl (isB_no hg750) rfl ?_
      refine wv rfl (p_t rfl hg750 rfl) ?_
      obtain rfl := Option.some.inj hx
      exact mid_nil () ⟨rfl, rfl, rfl, rfl, trivial⟩ hM
     ·
      replace hx := xif_f hg750 hx
      refine gv rfl hg750 rfl (r_move rfl) ?_
      refine gv rfl hg750 rfl (r_move rfl) ?_
      refine gv rfl hg750 rfl (r_lenC Tryd.underlying29 rfl (hM.seeO (.tail _ (.head _)))) ?_
      obtain ⟨r765, h766, hx⟩ := bind_some' hx
      refine gc rfl hg750 rfl rfl (hM.callV fun X S oL hS hR hO => ct_impl_MarkedAll _ X S r736.1 s739 (r476.1.length : Int) hS (seeA hO (.head _)) oL h766) ?_
      rintro _ w767 ⟨rfl, hR768⟩
      have hM := hM.call hR768
      refine gv rfl hg750 rfl (r_move rfl) ?_
      refine gv rfl hg750 rfl (r_lenC Tryd.underlying29 rfl (hM.seeO (.tail _ (.head _)))) ?_
      refine gv rfl hg750 rfl (r_neq rfl rfl) ?_
      refine wv rfl (p_f rfl hg750 rfl) ?_
      obtain rfl := Option.some.inj hx
      exact mid_nil () ⟨rfl, rfl, rfl, rfl, trivial⟩ hM
    rintro _ w772 hM
    replace hx := hx761
    refine wmv rfl rfl ?_
    obtain ⟨c774, hx, hx786⟩ := bind_some' hx
    refine wl_mid 7 (fun _ : Unit => [(144, (.bool c774)), (3, s479.v), (6, s498.v), (12, s739.v)]) (fun _ w' => St ⟨w, X, S⟩ [oC (cSl 3 fDMark r736.1) s739.v, oC (cSl 1 fI r476.1) s479.v, oC (cSl 3 fDMark r495) s498.v, oC (cSl 3 fDMark r503.1) s506.v, oC (cSl 3 fDMark r521.1) s524.v] [rTab] w') ?_ ?_
    ·
     rcases Bool.eq_false_or_eq_true c749 with hg775 | hg775
     ·
      replace hx := xif_t hg775 hx
      refine gs rfl (isB_no hg775) rfl ?_
      refine gs rfl (isB_no hg775) rfl ?_
      refine gs rfl (isB_no hg775) rfl ?_
      refine gs rfl (isB_no hg775) rfl ?_
      refine gs rfl (isB_no hg775) rfl ?_
      refine gs rfl (isB_no hg775) rfl ?_
      refine wv rfl (p_t rfl hg775 rfl) ?_
      obtain rfl := Option.some.inj hx
      exact mid_nil () ⟨rfl, rfl, rfl, rfl, trivial⟩ hM
     ·
      replace hx := xif_f hg775 hx
      refine gv rfl hg775 rfl (r_move rfl) ?_
      obtain ⟨r788, h789, hx⟩ := bind_some' hx
      refine gc rfl hg775 rfl rfl (hM.callO (l := []) fun X S oL hS hR hO => ct_impl_MarkDrop _ X S r736.1 s739 (99 : Int) hS (seeA hO (.head _)) oL h789) ?_
      rintro _ w790 ⟨s791, rfl, hM⟩
      dsimp only [List.cons_append, List.nil_append] at hM
      refine gv rfl hg775 rfl (r_lenC Tryd.underlying33 rfl (hM.seeO (.head _))) ?_
      refine gv rfl hg775 rfl (r_move rfl) ?_
      refine gv rfl hg775 rfl (r_lenC Tryd.underlying33 rfl (hM.seeO (.tail _ (.tail _ (.tail _ (.head _)))))) ?_
      refine gv rfl hg775 rfl (r_neq rfl rfl) ?_
      refine wv rfl (p_f rfl hg775 rfl) ?_
      obtain rfl := Option.some.inj hx
      replace hM := hM.p5.p5.p5.p5.p5
      replace hM := hM.t5
      exact mid_nil () ⟨rfl, rfl, rfl, rfl, trivial⟩ hM
    rintro _ w797 hM
    replace hx := hx786
    refine wl_sq ?_
    refine wc_cond rfl (fun hc798 => ?_) (fun hc798 => ?_)
    ·
     replace hx := xif_t hc798 hx
     refine wc_sr ?_
     refine was rfl rfl ?_
     refine wl_sq ?_
     refine wc_ret ?_
     refine sq_ret ?_
     obtain rfl := Option.some.inj hx
     refine fin_ret [(.bool false)] ⟨rfl, trivial⟩ ?_
     replace hM := hM.t0
     have hM := hM.fewer rsN
     exact ⟨(), rfl, hM.gives⟩
    ·
     replace hx := xif_f hc798 hx
     refine wc_skip ?_
     refine sq_n ?_
     refine wc_seq ?_
     refine wc_sr ?_
     refine wmv rfl rfl ?_
     refine wv rfl (r_lenC Tryd.underlying29 rfl (hM.seeO (.tail _ (.head _)))) ?_
     refine wmv rfl rfl ?_
     refine wl_sq ?_
     refine wc_block ?_
     obtain ⟨y803, hx, hx804⟩ := bind_some' hx
     replace hM := hM.p2.p2
     replace hM := hM.t3
     have hl808 := Cs.le (hM.seeO (.head _))
     refine wc_loop (un fun (m805 : Nat) => fun (k806 : Nat) => [(3, s479.v), (6, s498.v), (12, s739.v), (146, (.int .i64 (r476.1.length : Int))), (147, (.int .i64 (k806 : Int)))]) (un fun (m805 : Nat) => fun (k806 : Nat) w' => St ⟨w, X, S⟩ [oC (cSl 1 fI r476.1) s479.v, oC (cSl 3 fDMark r495) s498.v, oC (cSl 3 fDMark r736.1) s739.v] [rTab] w' ∧ eachN _ _ m805 k806 () = some y803 ∧ k806 + m805 = r476.1.length) (fun p => p.1) (r476.1.length, 0) ⟨rfl, rfl, rfl, rfl, rfl, trivial⟩ ⟨hM, hx, Nat.zero_add _⟩ ?_
     rintro ⟨m805, k806⟩ w809 ⟨hM, hx, hk807⟩
     refine wc_sr ?_
     refine wv rfl (r_lss rfl rfl) ?_
     refine wl_sq ?_
     refine wc_seq ?_
     refine wc_cond rfl (fun hc811 => ?_) (fun hc811 => ?_)
     ·
      replace hc811 := of_decide_eq_true hc811
      obtain ⟨m812, z813, rfl, hk807, hx, hx814⟩ := eachN_step hx hk807 hc811
      unfold x_laws_FnMarks_f1 x_laws_FnMarks_b1 at hx
      try dsimp only at hx
      refine wc_skip ?_
      refine sq_n ?_
      refine wc_seq ?_
      refine wc_block ?_
      refine wc_sr ?_
      refine wmv rfl rfl ?_
      refine was rfl rfl ?_
      refine wl_sq ?_
      refine wc_sr ?_
      refine wmv rfl rfl ?_
      refine wmv rfl rfl ?_
      obtain ⟨r819, h820, hx⟩ := bind_some' hx
      refine w_call rfl rfl (hM.callO (l := []) fun X S oL hS hR hO => ct_impl_MarksAt _ X S r736.1 s739 (k806 : Int) hS (seeA hO (.tail _ (.tail _ (.head _)))) oL h820) ?_
      rintro _ w821 ⟨s822, rfl, hM⟩
      dsimp only [List.cons_append, List.nil_append] at hM
      refine wv rfl (r_lenC Tryd.underlying29 rfl (hM.seeO (.head _))) ?_
      refine wmv rfl rfl ?_
      refine wmv rfl rfl ?_
      obtain ⟨r827, h828, hx⟩ := bind_some' hx
      refine w_call rfl rfl (hM.callO (l := []) fun X S oL hS hR hO => ct_impl_MarksAt _ X S r495 s498 (k806 : Int) hS (seeA hO (.tail _ (.tail _ (.head _)))) oL h828) ?_
      rintro _ w829 ⟨s830, rfl, hM⟩
      dsimp only [List.cons_append, List.nil_append] at hM
      refine wv rfl (r_lenC Tryd.underlying29 rfl (hM.seeO (.head _))) ?_
      obtain ⟨hg834, hx⟩ := xg_some hx
      refine wv rfl (r_add rfl rfl hg834) ?_
      refine wv rfl (r_neq rfl rfl) ?_
      refine wl_sq ?_
      refine wc_cond rfl (fun hc836 => ?_) (fun hc836 => ?_)
      ·
       replace hx := xif_t hc836 hx
       refine wc_sr ?_
       refine was rfl rfl ?_
       refine wl_sq ?_
       refine wc_ret ?_
       refine bk_ret ?_
       refine sq_ret ?_
       refine lp1_ret ?_
       obtain rfl := Option.some.inj hx
       obtain rfl := Option.some.inj hx814
       replace hx := hx804
       try dsimp only [Sum.elim_inl, Sum.elim_inr] at hx
       refine bk_ret ?_
       refine sq_ret ?_
       obtain rfl := Option.some.inj hx
       refine fin_ret [(.bool false)] ⟨rfl, trivial⟩ ?_
       replace hM := hM.t0
       have hM := hM.fewer rsN
       exact ⟨(), rfl, hM.gives⟩
      ·
       replace hx := xif_f hc836 hx
       refine wc_skip ?_
       refine bk_n ?_
       refine sq_n ?_
       refine wc_region ?_
       refine wv rfl (r_add rfl rfl ⟨by omega, by omega⟩) ?_
       refine wmv rfl rfl ?_
       refine wl_nil ?_
       obtain rfl := Option.some.inj hx
       replace hM := hM.p4.p4.p4
       replace hM := hM.t3
       exact lp_end (m812, k806 + 1) (Nat.lt_succ_self _) ⟨rfl, rfl, rfl, rfl, rfl, trivial⟩ ⟨hM, hx814, hk807⟩
     ·
      replace hc811 := of_decide_eq_false hc811
      obtain rfl := eachN_end hx hk807 hc811
      refine wc_exit ?_
      refine sq_exit ?_
      refine lp1_exit ?_
      replace hx := hx804
      try dsimp only [Sum.elim_inl, Sum.elim_inr] at hx
      refine bk_here ?_
      refine sq_n ?_
      refine wc_sr ?_
      refine wmv rfl rfl ?_
      refine wmv rfl rfl ?_
      refine wv rfl (r_lenC Tryd.underlying29 rfl (hM.seeO (.head _))) ?_
      obtain ⟨r843, h844, hx⟩ := bind_some' hx
      refine w_call rfl rfl (hM.callV fun X S oL hS hR hO => ct_impl_MarkedAll _ X S r495 s498 (r476.1.length : Int) hS (seeA hO (.tail _ (.head _))) oL h844) ?_
      rintro _ w845 ⟨rfl, hR846⟩
      have hM := hM.call hR846
      refine wmv rfl rfl ?_
      refine wv rfl (r_lenC Tryd.underlying29 rfl (hM.seeO (.head _))) ?_
      refine wv rfl (r_leq rfl rfl) ?_
      refine was rfl rfl ?_
      refine wl_sq ?_
      refine wc_ret ?_
      obtain rfl := Option.some.inj hx
      refine fin_ret [(.bool (decide (r843 ≤ (r476.1.length : Int))))] ⟨rfl, trivial⟩ ?_
      replace hM := hM.t0
      have hM := hM.fewer rsN
      exact ⟨(), rfl, hM.gives⟩

end Go.Proofs.YtdfjkipdmeomdaaDoor
