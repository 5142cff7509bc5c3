/- Walks of functions of this program (printed by a program of ours, by the rules of the layer). No condition. -/
import Derived.Test.YtnpfbhejekpmaaaL3
namespace Go.Proofs.Ytnpfbhejekpmaaa
open Go.RowKit

noncomputable def x_laws_FnExactPastOk (aP : DStory) : Option Bool :=
  Option.bind (x_laws_szStory aP 1048576) fun r9 => bif decide (r9 < 0) then (some true) else (Option.bind (x_laws_toStory aP) fun r18 => Option.bind (x_spec_PastOk r18) fun r25 => Option.bind (x_laws_toStory aP) fun r31 => Option.bind (x_impl_PastOk r31) fun r45 => bif !(r45 == r25) then (some false) else (Option.bind (x_laws_toStory aP) fun r56 => Option.bind (x_laws_eqStory r31 r56) fun r66 => bif !r66 then (some false) else (some true)))
theorem ct_laws_FnExactPastOk (w : World) (X S : Bs) (aP : DStory) (s_aP_1 : Sv) (s_aP_2 : Sv) (hS : ∀ b, S b → b < w.heap.size ∧ ¬ X b) (a_aP_1 : (cSl 1 fLDPart aP.undo).rd S w s_aP_1.v) (a_aP_2 : (cSl 1 fLDPart aP.redo).rd S w s_aP_2.v) (oL : Sep [] X w) {r : Bool} (hx : x_laws_FnExactPastOk aP = some r) :
    Ret Try.prog 8 [(.agg #[(.int .i64 aP.n), s_aP_1.v, s_aP_2.v])] w (fun u w' => ∃ _ : Unit, u = (.bool r) ∧ Gives X S w [] [] w') := by
  unfold x_laws_FnExactPastOk at hx
  refine enter Try.func8 rfl Try.ntmps8 (by kernel_rfl) rfl ?_
  have hM := St.enter oL hS
  have hM := hM.addE (r := rV s_aP_1.v (cSl 1 fLDPart aP.undo)) a_aP_1
  have hM := hM.addE (r := rV s_aP_2.v (cSl 1 fLDPart aP.redo)) a_aP_2
  refine wc_seq ?_
  refine wc_region ?_
  refine w_ex rfl (x_box rfl hM ?_); intro b75 w74 hR76 hM
  replace hM : St ⟨w, X, S⟩ [oBox b75 #[(.int .i64 aP.n), s_aP_1.v, s_aP_2.v] 43] [rV s_aP_2.v (cSl 1 fLDPart aP.redo), rV s_aP_1.v (cSl 1 fLDPart aP.undo)] _ := hM
  refine wv rfl (r_assign rfl) ?_
  refine wl_nil ?_
  refine sq_n ?_
  refine wc_seq ?_
  refine wc_region ?_
  refine wv rfl (r_assign rfl) ?_
  refine wl_nil ?_
  refine sq_n ?_
  refine wc_seq ?_
  refine wc_region ?_
  refine wv rfl (r_ldBS Try.underlying43 sz43 rfl (us := [(.int .i64 aP.n), s_aP_1.v, s_aP_2.v]) rfl hM (.head _) rfl) ?_
  refine wv rfl (r_move rfl) ?_
  obtain ⟨r82, h83, hx⟩ := bind_some' hx
  refine w_call rfl rfl (hM.callV fun X S oL hS hR hO => ct_laws_szStory _ X S aP s_aP_1 s_aP_2 (1048576 : Int) hS (hR _ (.tail _ (.head _))) (hR _ (.head _)) oL h83) ?_
  rintro _ w84 ⟨rfl, hR85⟩
  have hM := hM.call hR85
  refine wv rfl (r_assign rfl) ?_
  refine wl_nil ?_
  refine sq_n ?_
  refine wc_seq ?_
  refine wc_seq ?_
  refine wc_region ?_
  refine wv rfl (r_move rfl) ?_
  refine wv rfl (r_lss rfl rfl) ?_
  refine wl_nil ?_
  refine sq_n ?_
  refine wc_cond rfl (fun hc89 => ?_) (fun hc89 => ?_)
  · replace hx := xif_t hc89 hx
    refine wc_seq ?_
    refine wc_region ?_
    refine wv rfl (r_assign rfl) ?_
    refine wl_nil ?_
    refine sq_n ?_
    refine wc_ret ?_
    refine sq_ret ?_
    obtain rfl := Option.some.inj hx
    refine fin_ret [(.bool true)] ⟨rfl, trivial⟩ ?_
    replace hM : St ⟨w, X, S⟩ [] [rV s_aP_2.v (cSl 1 fLDPart aP.redo), rV s_aP_1.v (cSl 1 fLDPart aP.undo)] _ := hM.tk 0
    have hM := hM.fewer rsN
    exact ⟨(), rfl, hM.gives⟩
  · replace hx := xif_f hc89 hx
    refine wc_skip ?_
    refine sq_n ?_
    refine wc_seq ?_
    refine wc_region ?_
    refine wv rfl (r_ldBS Try.underlying43 sz43 rfl (us := [(.int .i64 aP.n), s_aP_1.v, s_aP_2.v]) rfl hM (.head _) rfl) ?_
    obtain ⟨r92, h93, hx⟩ := bind_some' hx
    refine w_call rfl rfl (hM.callO (l := []) fun X S oL hS hR hO => ct_laws_toStory _ X S aP s_aP_1 s_aP_2 hS (hR _ (.tail _ (.head _))) (hR _ (.head _)) oL h93) ?_
    rintro _ w94 ⟨⟨s95, s96⟩, rfl, hM⟩
    replace hM : St ⟨w, X, S⟩ [oC (cSl 1 fLDPart r92.undo) s95.v, oC (cSl 1 fLDPart r92.redo) s96.v, oBox b75 #[(.int .i64 aP.n), s_aP_1.v, s_aP_2.v] 43] [rV s_aP_2.v (cSl 1 fLDPart aP.redo), rV s_aP_1.v (cSl 1 fLDPart aP.undo)] _ := hM
    obtain ⟨r99, h100, hx⟩ := bind_some' hx
    refine w_call rfl rfl (hM.callV fun X S oL hS hR hO => ct_spec_PastOk _ X S r92 s95 s96 hS (seeA hO (.head _)) (seeA hO (.tail _ (.head _))) oL h100) ?_
    rintro _ w101 ⟨rfl, hR102⟩
    have hM := hM.call hR102
    refine wv rfl (r_assign rfl) ?_
    refine wl_nil ?_
    refine sq_n ?_
    refine wc_seq ?_
    refine wc_region ?_
    refine wv rfl (r_ldBS Try.underlying43 sz43 rfl (us := [(.int .i64 aP.n), s_aP_1.v, s_aP_2.v]) rfl hM (.tail _ (.tail _ (.head _))) rfl) ?_
    obtain ⟨r105, h106, hx⟩ := bind_some' hx
    refine w_call rfl rfl (hM.callO (l := []) fun X S oL hS hR hO => ct_laws_toStory _ X S aP s_aP_1 s_aP_2 hS (hR _ (.tail _ (.head _))) (hR _ (.head _)) oL h106) ?_
    rintro _ w107 ⟨⟨s108, s109⟩, rfl, hM⟩
    replace hM : St ⟨w, X, S⟩ [oC (cSl 1 fLDPart r105.undo) s108.v, oC (cSl 1 fLDPart r105.redo) s109.v, oC (cSl 1 fLDPart r92.undo) s95.v, oC (cSl 1 fLDPart r92.redo) s96.v, oBox b75 #[(.int .i64 aP.n), s_aP_1.v, s_aP_2.v] 43] [rV s_aP_2.v (cSl 1 fLDPart aP.redo), rV s_aP_1.v (cSl 1 fLDPart aP.undo)] _ := hM
    refine w_ex rfl (x_alloc sz48 hM ?_); intro b113 w112 hR114 hM
    replace hM : St ⟨w, X, S⟩ [oBox b113 #[(.int .i64 0), (.slice none 0 0), (.slice none 0 0)] 48, oC (cSl 1 fLDPart r105.undo) s108.v, oC (cSl 1 fLDPart r105.redo) s109.v, oC (cSl 1 fLDPart r92.undo) s95.v, oC (cSl 1 fLDPart r92.redo) s96.v, oBox b75 #[(.int .i64 aP.n), s_aP_1.v, s_aP_2.v] 43] [rV s_aP_2.v (cSl 1 fLDPart aP.redo), rV s_aP_1.v (cSl 1 fLDPart aP.undo)] _ := hM
    refine w_exu (x_stB #[(.int .i64 r105.n), s108.v, s109.v] sz48 rfl rfl rfl rfl rfl rfl hM ?_); intro w116 hM
    refine wl_nil ?_
    refine sq_n ?_
    refine wc_seq ?_
    refine wc_region ?_
    refine wv rfl (r_ldBS Try.underlying48 sz48 rfl (us := [(.int .i64 r105.n), s108.v, s109.v]) rfl hM (.head _) rfl) ?_
    obtain ⟨r119, h120, hx⟩ := bind_some' hx
    refine w_call rfl rfl (hM.callV fun X S oL hS hR hO => ct_impl_PastOk _ X S r105 s108 s109 hS (seeA hO (.tail _ (.head _))) (seeA hO (.tail _ (.tail _ (.head _)))) oL h120) ?_
    rintro _ w121 ⟨rfl, hR122⟩
    have hM := hM.call hR122
    refine wv rfl (r_assign rfl) ?_
    refine wl_nil ?_
    refine sq_n ?_
    refine wc_seq ?_
    refine wc_seq ?_
    refine wc_region ?_
    refine wv rfl (r_move rfl) ?_
    refine wv rfl (r_move rfl) ?_
    refine wv rfl (r_neqb Try.underlying4 rfl rfl) ?_
    refine wl_nil ?_
    refine sq_n ?_
    refine wc_cond rfl (fun hc127 => ?_) (fun hc127 => ?_)
    · replace hx := xif_t hc127 hx
      refine wc_seq ?_
      refine wc_region ?_
      refine wv rfl (r_assign rfl) ?_
      refine wl_nil ?_
      refine sq_n ?_
      refine wc_ret ?_
      refine sq_ret ?_
      obtain rfl := Option.some.inj hx
      refine fin_ret [(.bool false)] ⟨rfl, trivial⟩ ?_
      replace hM : St ⟨w, X, S⟩ [] [rV s_aP_2.v (cSl 1 fLDPart aP.redo), rV s_aP_1.v (cSl 1 fLDPart aP.undo)] _ := hM.tk 0
      have hM := hM.fewer rsN
      exact ⟨(), rfl, hM.gives⟩
    · replace hx := xif_f hc127 hx
      refine wc_skip ?_
      refine sq_n ?_
      refine wc_seq ?_
      refine wc_seq ?_
      refine wc_draw [(0, 0), (1, 0), (2, 1), (3, 0), (4, 0)] Try_mixed (by kernel_rfl) rfl (by kernel_rfl) rfl ?_
      refine ov rfl (fun w' h' => r_ldBS Try.underlying48 sz48 rfl (us := [(.int .i64 r105.n), s108.v, s109.v]) rfl (hM.call h') (.head _) rfl) ?_
      refine ov rfl (fun w' h' => r_ldBS Try.underlying43 sz43 rfl (us := [(.int .i64 aP.n), s_aP_1.v, s_aP_2.v]) rfl (hM.call h') (.tail _ (.tail _ (.tail _ (.tail _ (.tail _ (.head _)))))) rfl) ?_
      obtain ⟨r131, h132, hx⟩ := bind_some' hx
      refine o_forced rfl rfl (fun w' h' => (hM.call h').callF fun X S oL hS hR hO => ct_laws_toStory _ X S aP s_aP_1 s_aP_2 hS (hR _ (.tail _ (.head _))) (hR _ (.head _)) oL h132) ?_
      rintro w136 h137 _ w133 ⟨hR138, ⟨s134, s135⟩, rfl, hM⟩
      refine ⟨hR138, ?_⟩
      replace hM : St ⟨w, X, S⟩ [oC (cSl 1 fLDPart r131.undo) s134.v, oC (cSl 1 fLDPart r131.redo) s135.v, oBox b113 #[(.int .i64 r105.n), s108.v, s109.v] 48, oC (cSl 1 fLDPart r105.undo) s108.v, oC (cSl 1 fLDPart r105.redo) s109.v, oC (cSl 1 fLDPart r92.undo) s95.v, oC (cSl 1 fLDPart r92.redo) s96.v, oBox b75 #[(.int .i64 aP.n), s_aP_1.v, s_aP_2.v] 43] [rV s_aP_2.v (cSl 1 fLDPart aP.redo), rV s_aP_1.v (cSl 1 fLDPart aP.undo)] _ := hM
      obtain ⟨r141, h142, hx⟩ := bind_some' hx
      refine oc rfl rfl (fun w' h' => (hM.call h').callV fun X S oL hS hR hO => ct_laws_eqStory _ X S r105 s108 s109 r131 s134 s135 hS (seeA hO (.tail _ (.tail _ (.tail _ (.head _))))) (seeA hO (.tail _ (.tail _ (.tail _ (.tail _ (.head _)))))) (seeA hO (.head _)) (seeA hO (.tail _ (.head _))) oL h142) ?_
      refine ov rfl (fun w' h' => r_not rfl) ?_
      refine o_nil fun w145 hw146 => ?_
      have hM := hM.call hw146
      refine sq_n ?_
      refine wc_cond rfl (fun hc147 => ?_) (fun hc147 => ?_)
      · replace hx := xif_t hc147 hx
        refine wc_seq ?_
        refine wc_region ?_
        refine wv rfl (r_assign rfl) ?_
        refine wl_nil ?_
        refine sq_n ?_
        refine wc_ret ?_
        refine sq_ret ?_
        obtain rfl := Option.some.inj hx
        refine fin_ret [(.bool false)] ⟨rfl, trivial⟩ ?_
        replace hM : St ⟨w, X, S⟩ [] [rV s_aP_2.v (cSl 1 fLDPart aP.redo), rV s_aP_1.v (cSl 1 fLDPart aP.undo)] _ := hM.tk 0
        have hM := hM.fewer rsN
        exact ⟨(), rfl, hM.gives⟩
      · replace hx := xif_f hc147 hx
        refine wc_skip ?_
        refine sq_n ?_
        refine wc_seq ?_
        refine wc_region ?_
        refine wv rfl (r_assign rfl) ?_
        refine wl_nil ?_
        refine sq_n ?_
        refine wc_ret ?_
        obtain rfl := Option.some.inj hx
        refine fin_ret [(.bool true)] ⟨rfl, trivial⟩ ?_
        replace hM : St ⟨w, X, S⟩ [] [rV s_aP_2.v (cSl 1 fLDPart aP.redo), rV s_aP_1.v (cSl 1 fLDPart aP.undo)] _ := hM.tk 0
        have hM := hM.fewer rsN
        exact ⟨(), rfl, hM.gives⟩

noncomputable def x_laws_FnExactPastDo (aP : DStory) (aO : List DPart) (aT : List Int) : Option Bool :=
  bif decide ((1048576 : Int) < (aT.length : Int)) then (some true) else (Option.bind (x_laws_szStory aP 1048576) fun r13 => bif decide (r13 < 0) then (some true) else (Option.bind (x_laws_szPartS aO r13) fun r23 => bif decide (r23 < 0) then (some true) else (Option.bind (x_laws_toStory aP) fun r32 => Option.bind (x_laws_toPartS aO) fun r40 => Option.bind (x_laws_toIntS aT) fun r46 => Option.bind (x_spec_PastDo r32 r40 r46) fun r51 => Option.bind (x_laws_toStory aP) fun r69 => Option.bind (x_laws_toPartS aO) fun r83 => Option.bind (x_laws_toIntS aT) fun r90 => Option.bind (x_impl_PastDo r69 r83 r90) fun r99 => Option.bind (x_laws_eqStory r99.1 r51.1) fun r118 => Option.bind (bif !r118 then (some true) else (some (!(r99.2 == r51.2)))) fun c124 => bif c124 then (some false) else (Option.bind (x_laws_toStory aP) fun r135 => Option.bind (x_laws_eqStory r69 r135) fun r145 => bif !r145 then (some false) else (Option.bind (x_laws_toPartS aO) fun r154 => Option.bind (x_laws_eqPartS r83 r154) fun r159 => bif !r159 then (some false) else (Option.bind (x_laws_toIntS aT) fun r167 => Option.bind (x_laws_eqIntS r90 r167) fun r172 => bif !r172 then (some false) else (Option.bind (x_laws_markStory r69 1) fun r181 => Option.bind (x_laws_markPartS r83 r181.1) fun r187 => Option.bind (x_laws_markIntS r90 r187.1) fun r193 => Option.bind (bif decide (r193.1 < 0) then (some true) else (Option.bind (x_laws_eqStory r99.1 r51.1) fun r211 => some (!r211))) fun c200 => Option.bind (bif c200 then (some true) else (some (!(r99.2 == r51.2)))) fun c217 => bif c217 then (some false) else (Option.bind (x_laws_markStory r99.1 1) fun r229 => Option.bind (x_laws_heldStory (⟨r99.1.n, r229.2.undo, r229.2.redo⟩ : DStory) 1) fun r236 => bif decide (r236 < 0) then (some false) else (bif !decide (r236 = r229.1) then (some false) else (Option.bind (x_laws_toStory aP) fun r249 => Option.bind (x_laws_toPartS aO) fun r257 => Option.bind (x_laws_toIntS aT) fun r263 => Option.bind (x_impl_PastDo r249 r257 r263) fun r268 => Option.bind (x_laws_eqStory r268.1 r51.1) fun r287 => Option.bind (bif !r287 then (some true) else (some (!(r268.2 == r51.2)))) fun c293 => bif c293 then (some false) else (Option.bind (x_laws_heldStory (⟨r99.1.n, r229.2.undo, r229.2.redo⟩ : DStory) 1) fun r305 => bif decide (r305 < 0) then (some false) else (bif !decide (r305 = r229.1) then (some false) else (some true)))))))))))))
theorem ct_laws_FnExactPastDo (w : World) (X S : Bs) (aP : DStory) (s_aP_1 : Sv) (s_aP_2 : Sv) (aO : List DPart) (s_aO : Sv) (aT : List Int) (s_aT : Sv) (hS : ∀ b, S b → b < w.heap.size ∧ ¬ X b) (a_aP_1 : (cSl 1 fLDPart aP.undo).rd S w s_aP_1.v) (a_aP_2 : (cSl 1 fLDPart aP.redo).rd S w s_aP_2.v) (a_aO_0 : (cSl 3 fDPart aO).rd S w s_aO.v) (a_aT_0 : (cSl 1 fI aT).rd S w s_aT.v) (oL : Sep [] X w) {r : Bool} (hx : x_laws_FnExactPastDo aP aO aT = some r) :
    Ret Try.prog 11 [(.agg #[(.int .i64 aP.n), s_aP_1.v, s_aP_2.v]), s_aO.v, s_aT.v] w (fun u w' => ∃ _ : Unit, u = (.bool r) ∧ Gives X S w [] [] w') := by
  unfold x_laws_FnExactPastDo at hx
  refine enter Try.func11 rfl Try.ntmps11 (by kernel_rfl) rfl ?_
  have hM := St.enter oL hS
  have hM := hM.addE (r := rV s_aP_1.v (cSl 1 fLDPart aP.undo)) a_aP_1
  have hM := hM.addE (r := rV s_aP_2.v (cSl 1 fLDPart aP.redo)) a_aP_2
  have hM := hM.addE (r := rV s_aO.v (cSl 3 fDPart aO)) a_aO_0
  have hM := hM.addE (r := rV s_aT.v (cSl 1 fI aT)) a_aT_0
  refine wc_seq ?_
  refine wc_region ?_
  refine w_ex rfl (x_box rfl hM ?_); intro b319 w318 hR320 hM
  replace hM : St ⟨w, X, S⟩ [oBox b319 #[(.int .i64 aP.n), s_aP_1.v, s_aP_2.v] 43] [rV s_aT.v (cSl 1 fI aT), rV s_aO.v (cSl 3 fDPart aO), rV s_aP_2.v (cSl 1 fLDPart aP.redo), rV s_aP_1.v (cSl 1 fLDPart aP.undo)] _ := hM
  refine wv rfl (r_assign rfl) ?_
  refine wl_nil ?_
  refine sq_n ?_
  refine wc_seq ?_
  refine wc_seq ?_
  refine wc_region ?_
  refine wv rfl (r_move rfl) ?_
  refine wv rfl (r_lenC Try.underlying24 rfl (hM.seeR (.head _))) ?_
  refine wv rfl (r_gtr rfl rfl) ?_
  refine wl_nil ?_
  refine sq_n ?_
  refine wc_cond rfl (fun hc326 => ?_) (fun hc326 => ?_)
  · replace hx := xif_t hc326 hx
    refine wc_seq ?_
    refine wc_region ?_
    refine wv rfl (r_assign rfl) ?_
    refine wl_nil ?_
    refine sq_n ?_
    refine wc_ret ?_
    refine sq_ret ?_
    obtain rfl := Option.some.inj hx
    refine fin_ret [(.bool true)] ⟨rfl, trivial⟩ ?_
    replace hM : St ⟨w, X, S⟩ [] [rV s_aT.v (cSl 1 fI aT), rV s_aO.v (cSl 3 fDPart aO), rV s_aP_2.v (cSl 1 fLDPart aP.redo), rV s_aP_1.v (cSl 1 fLDPart aP.undo)] _ := hM.tk 0
    have hM := hM.fewer rsN
    exact ⟨(), rfl, hM.gives⟩
  · replace hx := xif_f hc326 hx
    refine wc_skip ?_
    refine sq_n ?_
    refine wc_seq ?_
    refine wc_region ?_
    refine wv rfl (r_assign rfl) ?_
    refine wl_nil ?_
    refine sq_n ?_
    refine wc_seq ?_
    refine wc_region ?_
    refine wv rfl (r_ldBS Try.underlying43 sz43 rfl (us := [(.int .i64 aP.n), s_aP_1.v, s_aP_2.v]) rfl hM (.head _) rfl) ?_
    refine wv rfl (r_move rfl) ?_
    obtain ⟨r331, h332, hx⟩ := bind_some' hx
    refine w_call rfl rfl (hM.callV fun X S oL hS hR hO => ct_laws_szStory _ X S aP s_aP_1 s_aP_2 (1048576 : Int) hS (hR _ (.tail _ (.tail _ (.tail _ (.head _))))) (hR _ (.tail _ (.tail _ (.head _)))) oL h332) ?_
    rintro _ w333 ⟨rfl, hR334⟩
    have hM := hM.call hR334
    refine wv rfl (r_assign rfl) ?_
    refine wl_nil ?_
    refine sq_n ?_
    refine wc_seq ?_
    refine wc_seq ?_
    refine wc_region ?_
    refine wv rfl (r_move rfl) ?_
    refine wv rfl (r_lss rfl rfl) ?_
    refine wl_nil ?_
    refine sq_n ?_
    refine wc_cond rfl (fun hc338 => ?_) (fun hc338 => ?_)
    · replace hx := xif_t hc338 hx
      refine wc_seq ?_
      refine wc_region ?_
      refine wv rfl (r_assign rfl) ?_
      refine wl_nil ?_
      refine sq_n ?_
      refine wc_ret ?_
      refine sq_ret ?_
      obtain rfl := Option.some.inj hx
      refine fin_ret [(.bool true)] ⟨rfl, trivial⟩ ?_
      replace hM : St ⟨w, X, S⟩ [] [rV s_aT.v (cSl 1 fI aT), rV s_aO.v (cSl 3 fDPart aO), rV s_aP_2.v (cSl 1 fLDPart aP.redo), rV s_aP_1.v (cSl 1 fLDPart aP.undo)] _ := hM.tk 0
      have hM := hM.fewer rsN
      exact ⟨(), rfl, hM.gives⟩
    · replace hx := xif_f hc338 hx
      refine wc_skip ?_
      refine sq_n ?_
      refine wc_seq ?_
      refine wc_region ?_
      refine wv rfl (r_move rfl) ?_
      refine wv rfl (r_move rfl) ?_
      obtain ⟨r342, h343, hx⟩ := bind_some' hx
      refine w_call rfl rfl (hM.callV fun X S oL hS hR hO => ct_laws_szPartS _ X S aO s_aO r331 hS (hR _ (.tail _ (.head _))) oL h343) ?_
      rintro _ w344 ⟨rfl, hR345⟩
      have hM := hM.call hR345
      refine wv rfl (r_assign rfl) ?_
      refine wl_nil ?_
      refine sq_n ?_
      refine wc_seq ?_
      refine wc_seq ?_
      refine wc_region ?_
      refine wv rfl (r_move rfl) ?_
      refine wv rfl (r_lss rfl rfl) ?_
      refine wl_nil ?_
      refine sq_n ?_
      refine wc_cond rfl (fun hc349 => ?_) (fun hc349 => ?_)
      · replace hx := xif_t hc349 hx
        refine wc_seq ?_
        refine wc_region ?_
        refine wv rfl (r_assign rfl) ?_
        refine wl_nil ?_
        refine sq_n ?_
        refine wc_ret ?_
        refine sq_ret ?_
        obtain rfl := Option.some.inj hx
        refine fin_ret [(.bool true)] ⟨rfl, trivial⟩ ?_
        replace hM : St ⟨w, X, S⟩ [] [rV s_aT.v (cSl 1 fI aT), rV s_aO.v (cSl 3 fDPart aO), rV s_aP_2.v (cSl 1 fLDPart aP.redo), rV s_aP_1.v (cSl 1 fLDPart aP.undo)] _ := hM.tk 0
        have hM := hM.fewer rsN
        exact ⟨(), rfl, hM.gives⟩
      · replace hx := xif_f hc349 hx
        refine wc_skip ?_
        refine sq_n ?_
        refine wc_seq ?_
        refine wc_region ?_
        refine wv rfl (r_ldBS Try.underlying43 sz43 rfl (us := [(.int .i64 aP.n), s_aP_1.v, s_aP_2.v]) rfl hM (.head _) rfl) ?_
        obtain ⟨r352, h353, hx⟩ := bind_some' hx
        refine w_call rfl rfl (hM.callO (l := []) fun X S oL hS hR hO => ct_laws_toStory _ X S aP s_aP_1 s_aP_2 hS (hR _ (.tail _ (.tail _ (.tail _ (.head _))))) (hR _ (.tail _ (.tail _ (.head _)))) oL h353) ?_
        rintro _ w354 ⟨⟨s355, s356⟩, rfl, hM⟩
        replace hM : St ⟨w, X, S⟩ [oC (cSl 1 fLDPart r352.undo) s355.v, oC (cSl 1 fLDPart r352.redo) s356.v, oBox b319 #[(.int .i64 aP.n), s_aP_1.v, s_aP_2.v] 43] [rV s_aT.v (cSl 1 fI aT), rV s_aO.v (cSl 3 fDPart aO), rV s_aP_2.v (cSl 1 fLDPart aP.redo), rV s_aP_1.v (cSl 1 fLDPart aP.undo)] _ := hM
        refine wv rfl (r_move rfl) ?_
        obtain ⟨r360, h361, hx⟩ := bind_some' hx
        refine w_call rfl rfl (hM.callO (l := []) fun X S oL hS hR hO => ct_laws_toPartS _ X S aO s_aO hS (hR _ (.tail _ (.head _))) oL h361) ?_
        rintro _ w362 ⟨s363, rfl, hM⟩
        replace hM : St ⟨w, X, S⟩ [oC (cSl 3 fDPart r360) s363.v, oC (cSl 1 fLDPart r352.undo) s355.v, oC (cSl 1 fLDPart r352.redo) s356.v, oBox b319 #[(.int .i64 aP.n), s_aP_1.v, s_aP_2.v] 43] [rV s_aT.v (cSl 1 fI aT), rV s_aO.v (cSl 3 fDPart aO), rV s_aP_2.v (cSl 1 fLDPart aP.redo), rV s_aP_1.v (cSl 1 fLDPart aP.undo)] _ := hM
        refine wv rfl (r_move rfl) ?_
        obtain ⟨r366, h367, hx⟩ := bind_some' hx
        refine w_call rfl rfl (hM.callO (l := []) fun X S oL hS hR hO => ct_laws_toIntS _ X S aT s_aT hS (hR _ (.head _)) oL h367) ?_
        rintro _ w368 ⟨s369, rfl, hM⟩
        replace hM : St ⟨w, X, S⟩ [oC (cSl 1 fI r366) s369.v, oC (cSl 3 fDPart r360) s363.v, oC (cSl 1 fLDPart r352.undo) s355.v, oC (cSl 1 fLDPart r352.redo) s356.v, oBox b319 #[(.int .i64 aP.n), s_aP_1.v, s_aP_2.v] 43] [rV s_aT.v (cSl 1 fI aT), rV s_aO.v (cSl 3 fDPart aO), rV s_aP_2.v (cSl 1 fLDPart aP.redo), rV s_aP_1.v (cSl 1 fLDPart aP.undo)] _ := hM
        obtain ⟨r371, h372, hx⟩ := bind_some' hx
        refine w_call rfl rfl (hM.callO (l := []) fun X S oL hS hR hO => ct_spec_PastDo _ X S r352 s355 s356 r360 s363 r366 s369 hS (seeA hO (.tail _ (.tail _ (.head _)))) (seeA hO (.tail _ (.tail _ (.tail _ (.head _))))) (seeA hO (.tail _ (.head _))) (seeA hO (.head _)) oL h372) ?_
        rintro _ w373 ⟨⟨s374, s375⟩, rfl, hM⟩
        replace hM : St ⟨w, X, S⟩ [oC (cSl 1 fLDPart r371.1.undo) s374.v, oC (cSl 1 fLDPart r371.1.redo) s375.v, oC (cSl 1 fI r366) s369.v, oC (cSl 3 fDPart r360) s363.v, oC (cSl 1 fLDPart r352.undo) s355.v, oC (cSl 1 fLDPart r352.redo) s356.v, oBox b319 #[(.int .i64 aP.n), s_aP_1.v, s_aP_2.v] 43] [rV s_aT.v (cSl 1 fI aT), rV s_aO.v (cSl 3 fDPart aO), rV s_aP_2.v (cSl 1 fLDPart aP.redo), rV s_aP_1.v (cSl 1 fLDPart aP.undo)] _ := hM
        refine wv rfl (r_move rfl) ?_
        refine wv rfl (r_extract rfl rfl) ?_
        refine wv rfl (r_extract rfl rfl) ?_
        refine w_ex rfl (x_alloc sz48 hM ?_); intro b382 w381 hR383 hM
        replace hM : St ⟨w, X, S⟩ [oBox b382 #[(.int .i64 0), (.slice none 0 0), (.slice none 0 0)] 48, oC (cSl 1 fLDPart r371.1.undo) s374.v, oC (cSl 1 fLDPart r371.1.redo) s375.v, oC (cSl 1 fI r366) s369.v, oC (cSl 3 fDPart r360) s363.v, oC (cSl 1 fLDPart r352.undo) s355.v, oC (cSl 1 fLDPart r352.redo) s356.v, oBox b319 #[(.int .i64 aP.n), s_aP_1.v, s_aP_2.v] 43] [rV s_aT.v (cSl 1 fI aT), rV s_aO.v (cSl 3 fDPart aO), rV s_aP_2.v (cSl 1 fLDPart aP.redo), rV s_aP_1.v (cSl 1 fLDPart aP.undo)] _ := hM
        refine w_exu (x_stB #[(.int .i64 r371.1.n), s374.v, s375.v] sz48 rfl rfl rfl rfl rfl rfl hM ?_); intro w385 hM
        refine wv rfl (r_assign rfl) ?_
        refine wl_nil ?_
        refine sq_n ?_
        refine wc_seq ?_
        refine wc_region ?_
        refine wv rfl (r_ldBS Try.underlying43 sz43 rfl (us := [(.int .i64 aP.n), s_aP_1.v, s_aP_2.v]) rfl hM (.tail _ (.tail _ (.tail _ (.tail _ (.tail _ (.tail _ (.tail _ (.head _)))))))) rfl) ?_
        obtain ⟨r389, h390, hx⟩ := bind_some' hx
        refine w_call rfl rfl (hM.callO (l := []) fun X S oL hS hR hO => ct_laws_toStory _ X S aP s_aP_1 s_aP_2 hS (hR _ (.tail _ (.tail _ (.tail _ (.head _))))) (hR _ (.tail _ (.tail _ (.head _)))) oL h390) ?_
        rintro _ w391 ⟨⟨s392, s393⟩, rfl, hM⟩
        replace hM : St ⟨w, X, S⟩ [oC (cSl 1 fLDPart r389.undo) s392.v, oC (cSl 1 fLDPart r389.redo) s393.v, oBox b382 #[(.int .i64 r371.1.n), s374.v, s375.v] 48, oC (cSl 1 fLDPart r371.1.undo) s374.v, oC (cSl 1 fLDPart r371.1.redo) s375.v, oC (cSl 1 fI r366) s369.v, oC (cSl 3 fDPart r360) s363.v, oC (cSl 1 fLDPart r352.undo) s355.v, oC (cSl 1 fLDPart r352.redo) s356.v, oBox b319 #[(.int .i64 aP.n), s_aP_1.v, s_aP_2.v] 43] [rV s_aT.v (cSl 1 fI aT), rV s_aO.v (cSl 3 fDPart aO), rV s_aP_2.v (cSl 1 fLDPart aP.redo), rV s_aP_1.v (cSl 1 fLDPart aP.undo)] _ := hM
        refine w_ex rfl (x_alloc sz48 hM ?_); intro b397 w396 hR398 hM
        replace hM : St ⟨w, X, S⟩ [oBox b397 #[(.int .i64 0), (.slice none 0 0), (.slice none 0 0)] 48, oC (cSl 1 fLDPart r389.undo) s392.v, oC (cSl 1 fLDPart r389.redo) s393.v, oBox b382 #[(.int .i64 r371.1.n), s374.v, s375.v] 48, oC (cSl 1 fLDPart r371.1.undo) s374.v, oC (cSl 1 fLDPart r371.1.redo) s375.v, oC (cSl 1 fI r366) s369.v, oC (cSl 3 fDPart r360) s363.v, oC (cSl 1 fLDPart r352.undo) s355.v, oC (cSl 1 fLDPart r352.redo) s356.v, oBox b319 #[(.int .i64 aP.n), s_aP_1.v, s_aP_2.v] 43] [rV s_aT.v (cSl 1 fI aT), rV s_aO.v (cSl 3 fDPart aO), rV s_aP_2.v (cSl 1 fLDPart aP.redo), rV s_aP_1.v (cSl 1 fLDPart aP.undo)] _ := hM
        refine w_exu (x_stB #[(.int .i64 r389.n), s392.v, s393.v] sz48 rfl rfl rfl rfl rfl rfl hM ?_); intro w400 hM
        refine wl_nil ?_
        refine sq_n ?_
        refine wc_seq ?_
        refine wc_region ?_
        refine wv rfl (r_move rfl) ?_
        obtain ⟨r403, h404, hx⟩ := bind_some' hx
        refine w_call rfl rfl (hM.callO (l := []) fun X S oL hS hR hO => ct_laws_toPartS _ X S aO s_aO hS (hR _ (.tail _ (.head _))) oL h404) ?_
        rintro _ w405 ⟨s406, rfl, hM⟩
        replace hM : St ⟨w, X, S⟩ [oC (cSl 3 fDPart r403) s406.v, oBox b397 #[(.int .i64 r389.n), s392.v, s393.v] 48, oC (cSl 1 fLDPart r389.undo) s392.v, oC (cSl 1 fLDPart r389.redo) s393.v, oBox b382 #[(.int .i64 r371.1.n), s374.v, s375.v] 48, oC (cSl 1 fLDPart r371.1.undo) s374.v, oC (cSl 1 fLDPart r371.1.redo) s375.v, oC (cSl 1 fI r366) s369.v, oC (cSl 3 fDPart r360) s363.v, oC (cSl 1 fLDPart r352.undo) s355.v, oC (cSl 1 fLDPart r352.redo) s356.v, oBox b319 #[(.int .i64 aP.n), s_aP_1.v, s_aP_2.v] 43] [rV s_aT.v (cSl 1 fI aT), rV s_aO.v (cSl 3 fDPart aO), rV s_aP_2.v (cSl 1 fLDPart aP.redo), rV s_aP_1.v (cSl 1 fLDPart aP.undo)] _ := hM
        refine wv rfl (r_assign rfl) ?_
        refine wl_nil ?_
        refine sq_n ?_
        refine wc_seq ?_
        refine wc_region ?_
        refine wv rfl (r_move rfl) ?_
        obtain ⟨r410, h411, hx⟩ := bind_some' hx
        refine w_call rfl rfl (hM.callO (l := []) fun X S oL hS hR hO => ct_laws_toIntS _ X S aT s_aT hS (hR _ (.head _)) oL h411) ?_
        rintro _ w412 ⟨s413, rfl, hM⟩
        replace hM : St ⟨w, X, S⟩ [oC (cSl 1 fI r410) s413.v, oC (cSl 3 fDPart r403) s406.v, oBox b397 #[(.int .i64 r389.n), s392.v, s393.v] 48, oC (cSl 1 fLDPart r389.undo) s392.v, oC (cSl 1 fLDPart r389.redo) s393.v, oBox b382 #[(.int .i64 r371.1.n), s374.v, s375.v] 48, oC (cSl 1 fLDPart r371.1.undo) s374.v, oC (cSl 1 fLDPart r371.1.redo) s375.v, oC (cSl 1 fI r366) s369.v, oC (cSl 3 fDPart r360) s363.v, oC (cSl 1 fLDPart r352.undo) s355.v, oC (cSl 1 fLDPart r352.redo) s356.v, oBox b319 #[(.int .i64 aP.n), s_aP_1.v, s_aP_2.v] 43] [rV s_aT.v (cSl 1 fI aT), rV s_aO.v (cSl 3 fDPart aO), rV s_aP_2.v (cSl 1 fLDPart aP.redo), rV s_aP_1.v (cSl 1 fLDPart aP.undo)] _ := hM
        refine wv rfl (r_assign rfl) ?_
        refine wl_nil ?_
        refine sq_n ?_
        refine wc_seq ?_
        refine wc_region ?_
        refine wv rfl (r_ldBS Try.underlying48 sz48 rfl (us := [(.int .i64 r389.n), s392.v, s393.v]) rfl hM (.tail _ (.tail _ (.head _))) rfl) ?_
        refine wv rfl (r_move rfl) ?_
        refine wv rfl (r_move rfl) ?_
        obtain ⟨r419, h420, hx⟩ := bind_some' hx
        refine w_call rfl rfl (hM.callO (l := []) fun X S oL hS hR hO => ct_impl_PastDo _ X S r389 s392 s393 r403 s406 r410 s413 hS (seeA hO (.tail _ (.tail _ (.tail _ (.head _))))) (seeA hO (.tail _ (.tail _ (.tail _ (.tail _ (.head _)))))) (seeA hO (.tail _ (.head _))) (seeA hO (.head _)) oL h420) ?_
        rintro _ w421 ⟨⟨s422, s423⟩, rfl, hM⟩
        replace hM : St ⟨w, X, S⟩ [oC (cSl 1 fLDPart r419.1.undo) s422.v, oC (cSl 1 fLDPart r419.1.redo) s423.v, oC (cSl 1 fI r410) s413.v, oC (cSl 3 fDPart r403) s406.v, oBox b397 #[(.int .i64 r389.n), s392.v, s393.v] 48, oC (cSl 1 fLDPart r389.undo) s392.v, oC (cSl 1 fLDPart r389.redo) s393.v, oBox b382 #[(.int .i64 r371.1.n), s374.v, s375.v] 48, oC (cSl 1 fLDPart r371.1.undo) s374.v, oC (cSl 1 fLDPart r371.1.redo) s375.v, oC (cSl 1 fI r366) s369.v, oC (cSl 3 fDPart r360) s363.v, oC (cSl 1 fLDPart r352.undo) s355.v, oC (cSl 1 fLDPart r352.redo) s356.v, oBox b319 #[(.int .i64 aP.n), s_aP_1.v, s_aP_2.v] 43] [rV s_aT.v (cSl 1 fI aT), rV s_aO.v (cSl 3 fDPart aO), rV s_aP_2.v (cSl 1 fLDPart aP.redo), rV s_aP_1.v (cSl 1 fLDPart aP.undo)] _ := hM
        refine wv rfl (r_move rfl) ?_
        refine wv rfl (r_extract rfl rfl) ?_
        refine wv rfl (r_extract rfl rfl) ?_
        refine w_ex rfl (x_alloc sz48 hM ?_); intro b430 w429 hR431 hM
        replace hM : St ⟨w, X, S⟩ [oBox b430 #[(.int .i64 0), (.slice none 0 0), (.slice none 0 0)] 48, oC (cSl 1 fLDPart r419.1.undo) s422.v, oC (cSl 1 fLDPart r419.1.redo) s423.v, oC (cSl 1 fI r410) s413.v, oC (cSl 3 fDPart r403) s406.v, oBox b397 #[(.int .i64 r389.n), s392.v, s393.v] 48, oC (cSl 1 fLDPart r389.undo) s392.v, oC (cSl 1 fLDPart r389.redo) s393.v, oBox b382 #[(.int .i64 r371.1.n), s374.v, s375.v] 48, oC (cSl 1 fLDPart r371.1.undo) s374.v, oC (cSl 1 fLDPart r371.1.redo) s375.v, oC (cSl 1 fI r366) s369.v, oC (cSl 3 fDPart r360) s363.v, oC (cSl 1 fLDPart r352.undo) s355.v, oC (cSl 1 fLDPart r352.redo) s356.v, oBox b319 #[(.int .i64 aP.n), s_aP_1.v, s_aP_2.v] 43] [rV s_aT.v (cSl 1 fI aT), rV s_aO.v (cSl 3 fDPart aO), rV s_aP_2.v (cSl 1 fLDPart aP.redo), rV s_aP_1.v (cSl 1 fLDPart aP.undo)] _ := hM
        refine w_exu (x_stB #[(.int .i64 r419.1.n), s422.v, s423.v] sz48 rfl rfl rfl rfl rfl rfl hM ?_); intro w433 hM
        refine wv rfl (r_assign rfl) ?_
        refine wl_nil ?_
        refine sq_n ?_
        refine wc_seq ?_
        refine wc_seq ?_
        refine wc_region ?_
        refine wv rfl (r_ldBS Try.underlying48 sz48 rfl (us := [(.int .i64 r419.1.n), s422.v, s423.v]) rfl hM (.head _) rfl) ?_
        refine wv rfl (r_ldBS Try.underlying48 sz48 rfl (us := [(.int .i64 r371.1.n), s374.v, s375.v]) rfl hM (.tail _ (.tail _ (.tail _ (.tail _ (.tail _ (.tail _ (.tail _ (.tail _ (.head _))))))))) rfl) ?_
        obtain ⟨r438, h439, hx⟩ := bind_some' hx
        refine w_call rfl rfl (hM.callV fun X S oL hS hR hO => ct_laws_eqStory _ X S r419.1 s422 s423 r371.1 s374 s375 hS (seeA hO (.tail _ (.head _))) (seeA hO (.tail _ (.tail _ (.head _)))) (seeA hO (.tail _ (.tail _ (.tail _ (.tail _ (.tail _ (.tail _ (.tail _ (.tail _ (.tail _ (.head _))))))))))) (seeA hO (.tail _ (.tail _ (.tail _ (.tail _ (.tail _ (.tail _ (.tail _ (.tail _ (.tail _ (.tail _ (.head _)))))))))))) oL h439) ?_
        rintro _ w440 ⟨rfl, hR441⟩
        have hM := hM.call hR441
        refine wv rfl (r_not rfl) ?_
        refine wv rfl (r_move rfl) ?_
        obtain ⟨c444, hx, hx449⟩ := bind_some' hx
        refine wl_mid 4 (fun _ : Unit => [(64, (.bool c444)), (1, s_aO.v), (2, s_aT.v), (3, (.pointer (some ⟨b319, 0, none⟩))), (8, (.pointer (some ⟨b382, 0, none⟩))), (9, (.bool r371.2)), (10, (.pointer (some ⟨b397, 0, none⟩))), (11, s406.v), (12, s413.v), (13, (.pointer (some ⟨b430, 0, none⟩))), (14, (.bool r419.2))]) (fun _ w' => St ⟨w, X, S⟩ [oBox b430 #[(.int .i64 r419.1.n), s422.v, s423.v] 48, oC (cSl 1 fLDPart r419.1.undo) s422.v, oC (cSl 1 fLDPart r419.1.redo) s423.v, oC (cSl 1 fI r410) s413.v, oC (cSl 3 fDPart r403) s406.v, oBox b397 #[(.int .i64 r389.n), s392.v, s393.v] 48, oC (cSl 1 fLDPart r389.undo) s392.v, oC (cSl 1 fLDPart r389.redo) s393.v, oBox b382 #[(.int .i64 r371.1.n), s374.v, s375.v] 48, oC (cSl 1 fLDPart r371.1.undo) s374.v, oC (cSl 1 fLDPart r371.1.redo) s375.v, oC (cSl 1 fI r366) s369.v, oC (cSl 3 fDPart r360) s363.v, oC (cSl 1 fLDPart r352.undo) s355.v, oC (cSl 1 fLDPart r352.redo) s356.v, oBox b319 #[(.int .i64 aP.n), s_aP_1.v, s_aP_2.v] 43] [rV s_aT.v (cSl 1 fI aT), rV s_aO.v (cSl 3 fDPart aO), rV s_aP_2.v (cSl 1 fLDPart aP.redo), rV s_aP_1.v (cSl 1 fLDPart aP.undo)] w') ?_ ?_
        · rcases Bool.eq_false_or_eq_true (!r438) with hg445 | hg445
          · replace hx := xif_t hg445 hx
            refine gs rfl (isB_no hg445) rfl ?_
            refine gs rfl (isB_no hg445) rfl ?_
            refine gs rfl (isB_no hg445) rfl ?_
            refine wv rfl (p_t rfl hg445 rfl) ?_
            obtain rfl := Option.some.inj hx
            exact mid_nil () ⟨rfl, rfl, rfl, rfl, rfl, rfl, rfl, rfl, rfl, rfl, rfl, trivial⟩ hM
          · replace hx := xif_f hg445 hx
            refine gv rfl hg445 rfl (r_move rfl) ?_
            refine gv rfl hg445 rfl (r_move rfl) ?_
            refine gv rfl hg445 rfl (r_neqb Try.underlying4 rfl rfl) ?_
            refine wv rfl (p_f rfl hg445 rfl) ?_
            obtain rfl := Option.some.inj hx
            exact mid_nil () ⟨rfl, rfl, rfl, rfl, rfl, rfl, rfl, rfl, rfl, rfl, rfl, trivial⟩ hM
        rintro _ w453 hM
        replace hx := hx449
        refine wl_nil ?_
        refine sq_n ?_
        refine wc_cond rfl (fun hc454 => ?_) (fun hc454 => ?_)
        · replace hx := xif_t hc454 hx
          refine wc_seq ?_
          refine wc_region ?_
          refine wv rfl (r_assign rfl) ?_
          refine wl_nil ?_
          refine sq_n ?_
          refine wc_ret ?_
          refine sq_ret ?_
          obtain rfl := Option.some.inj hx
          refine fin_ret [(.bool false)] ⟨rfl, trivial⟩ ?_
          replace hM : St ⟨w, X, S⟩ [] [rV s_aT.v (cSl 1 fI aT), rV s_aO.v (cSl 3 fDPart aO), rV s_aP_2.v (cSl 1 fLDPart aP.redo), rV s_aP_1.v (cSl 1 fLDPart aP.undo)] _ := hM.tk 0
          have hM := hM.fewer rsN
          exact ⟨(), rfl, hM.gives⟩
        · replace hx := xif_f hc454 hx
          refine wc_skip ?_
          refine sq_n ?_
          refine wc_seq ?_
          refine wc_seq ?_
          refine wc_draw [(0, 0), (1, 0), (2, 1), (3, 0), (4, 0)] Try_mixed (by kernel_rfl) rfl (by kernel_rfl) rfl ?_
          refine ov rfl (fun w' h' => r_ldBS Try.underlying48 sz48 rfl (us := [(.int .i64 r389.n), s392.v, s393.v]) rfl (hM.call h') (.tail _ (.tail _ (.tail _ (.tail _ (.tail _ (.head _)))))) rfl) ?_
          refine ov rfl (fun w' h' => r_ldBS Try.underlying43 sz43 rfl (us := [(.int .i64 aP.n), s_aP_1.v, s_aP_2.v]) rfl (hM.call h') (.tail _ (.tail _ (.tail _ (.tail _ (.tail _ (.tail _ (.tail _ (.tail _ (.tail _ (.tail _ (.tail _ (.tail _ (.tail _ (.tail _ (.tail _ (.head _)))))))))))))))) rfl) ?_
          obtain ⟨r458, h459, hx⟩ := bind_some' hx
          refine o_forced rfl rfl (fun w' h' => (hM.call h').callF fun X S oL hS hR hO => ct_laws_toStory _ X S aP s_aP_1 s_aP_2 hS (hR _ (.tail _ (.tail _ (.tail _ (.head _))))) (hR _ (.tail _ (.tail _ (.head _)))) oL h459) ?_
          rintro w463 h464 _ w460 ⟨hR465, ⟨s461, s462⟩, rfl, hM⟩
          refine ⟨hR465, ?_⟩
          replace hM : St ⟨w, X, S⟩ [oC (cSl 1 fLDPart r458.undo) s461.v, oC (cSl 1 fLDPart r458.redo) s462.v, oBox b430 #[(.int .i64 r419.1.n), s422.v, s423.v] 48, oC (cSl 1 fLDPart r419.1.undo) s422.v, oC (cSl 1 fLDPart r419.1.redo) s423.v, oC (cSl 1 fI r410) s413.v, oC (cSl 3 fDPart r403) s406.v, oBox b397 #[(.int .i64 r389.n), s392.v, s393.v] 48, oC (cSl 1 fLDPart r389.undo) s392.v, oC (cSl 1 fLDPart r389.redo) s393.v, oBox b382 #[(.int .i64 r371.1.n), s374.v, s375.v] 48, oC (cSl 1 fLDPart r371.1.undo) s374.v, oC (cSl 1 fLDPart r371.1.redo) s375.v, oC (cSl 1 fI r366) s369.v, oC (cSl 3 fDPart r360) s363.v, oC (cSl 1 fLDPart r352.undo) s355.v, oC (cSl 1 fLDPart r352.redo) s356.v, oBox b319 #[(.int .i64 aP.n), s_aP_1.v, s_aP_2.v] 43] [rV s_aT.v (cSl 1 fI aT), rV s_aO.v (cSl 3 fDPart aO), rV s_aP_2.v (cSl 1 fLDPart aP.redo), rV s_aP_1.v (cSl 1 fLDPart aP.undo)] _ := hM
          obtain ⟨r468, h469, hx⟩ := bind_some' hx
          refine oc rfl rfl (fun w' h' => (hM.call h').callV fun X S oL hS hR hO => ct_laws_eqStory _ X S r389 s392 s393 r458 s461 s462 hS (seeA hO (.tail _ (.tail _ (.tail _ (.tail _ (.tail _ (.tail _ (.tail _ (.tail _ (.head _)))))))))) (seeA hO (.tail _ (.tail _ (.tail _ (.tail _ (.tail _ (.tail _ (.tail _ (.tail _ (.tail _ (.head _))))))))))) (seeA hO (.head _)) (seeA hO (.tail _ (.head _))) oL h469) ?_
          refine ov rfl (fun w' h' => r_not rfl) ?_
          refine o_nil fun w472 hw473 => ?_
          have hM := hM.call hw473
          refine sq_n ?_
          refine wc_cond rfl (fun hc474 => ?_) (fun hc474 => ?_)
          · replace hx := xif_t hc474 hx
            refine wc_seq ?_
            refine wc_region ?_
            refine wv rfl (r_assign rfl) ?_
            refine wl_nil ?_
            refine sq_n ?_
            refine wc_ret ?_
            refine sq_ret ?_
            obtain rfl := Option.some.inj hx
            refine fin_ret [(.bool false)] ⟨rfl, trivial⟩ ?_
            replace hM : St ⟨w, X, S⟩ [] [rV s_aT.v (cSl 1 fI aT), rV s_aO.v (cSl 3 fDPart aO), rV s_aP_2.v (cSl 1 fLDPart aP.redo), rV s_aP_1.v (cSl 1 fLDPart aP.undo)] _ := hM.tk 0
            have hM := hM.fewer rsN
            exact ⟨(), rfl, hM.gives⟩
          · replace hx := xif_f hc474 hx
            refine wc_skip ?_
            refine sq_n ?_
            refine wc_seq ?_
            refine wc_seq ?_
            refine wc_region ?_
            refine wv rfl (r_move rfl) ?_
            refine wv rfl (r_move rfl) ?_
            obtain ⟨r478, h479, hx⟩ := bind_some' hx
            refine w_call rfl rfl (hM.callO (l := []) fun X S oL hS hR hO => ct_laws_toPartS _ X S aO s_aO hS (hR _ (.tail _ (.head _))) oL h479) ?_
            rintro _ w480 ⟨s481, rfl, hM⟩
            replace hM : St ⟨w, X, S⟩ [oC (cSl 3 fDPart r478) s481.v, oC (cSl 1 fLDPart r458.undo) s461.v, oC (cSl 1 fLDPart r458.redo) s462.v, oBox b430 #[(.int .i64 r419.1.n), s422.v, s423.v] 48, oC (cSl 1 fLDPart r419.1.undo) s422.v, oC (cSl 1 fLDPart r419.1.redo) s423.v, oC (cSl 1 fI r410) s413.v, oC (cSl 3 fDPart r403) s406.v, oBox b397 #[(.int .i64 r389.n), s392.v, s393.v] 48, oC (cSl 1 fLDPart r389.undo) s392.v, oC (cSl 1 fLDPart r389.redo) s393.v, oBox b382 #[(.int .i64 r371.1.n), s374.v, s375.v] 48, oC (cSl 1 fLDPart r371.1.undo) s374.v, oC (cSl 1 fLDPart r371.1.redo) s375.v, oC (cSl 1 fI r366) s369.v, oC (cSl 3 fDPart r360) s363.v, oC (cSl 1 fLDPart r352.undo) s355.v, oC (cSl 1 fLDPart r352.redo) s356.v, oBox b319 #[(.int .i64 aP.n), s_aP_1.v, s_aP_2.v] 43] [rV s_aT.v (cSl 1 fI aT), rV s_aO.v (cSl 3 fDPart aO), rV s_aP_2.v (cSl 1 fLDPart aP.redo), rV s_aP_1.v (cSl 1 fLDPart aP.undo)] _ := hM
            obtain ⟨r483, h484, hx⟩ := bind_some' hx
            refine w_call rfl rfl (hM.callV fun X S oL hS hR hO => ct_laws_eqPartS _ X S r403 s406 r478 s481 hS (seeA hO (.tail _ (.tail _ (.tail _ (.tail _ (.tail _ (.tail _ (.tail _ (.head _))))))))) (seeA hO (.head _)) oL h484) ?_
            rintro _ w485 ⟨rfl, hR486⟩
            have hM := hM.call hR486
            refine wv rfl (r_not rfl) ?_
            refine wl_nil ?_
            refine sq_n ?_
            refine wc_cond rfl (fun hc488 => ?_) (fun hc488 => ?_)
            · replace hx := xif_t hc488 hx
              refine wc_seq ?_
              refine wc_region ?_
              refine wv rfl (r_assign rfl) ?_
              refine wl_nil ?_
              refine sq_n ?_
              refine wc_ret ?_
              refine sq_ret ?_
              obtain rfl := Option.some.inj hx
              refine fin_ret [(.bool false)] ⟨rfl, trivial⟩ ?_
              replace hM : St ⟨w, X, S⟩ [] [rV s_aT.v (cSl 1 fI aT), rV s_aO.v (cSl 3 fDPart aO), rV s_aP_2.v (cSl 1 fLDPart aP.redo), rV s_aP_1.v (cSl 1 fLDPart aP.undo)] _ := hM.tk 0
              have hM := hM.fewer rsN
              exact ⟨(), rfl, hM.gives⟩
            · replace hx := xif_f hc488 hx
              refine wc_skip ?_
              refine sq_n ?_
              refine wc_seq ?_
              refine wc_seq ?_
              refine wc_region ?_
              refine wv rfl (r_move rfl) ?_
              refine wv rfl (r_move rfl) ?_
              obtain ⟨r492, h493, hx⟩ := bind_some' hx
              refine w_call rfl rfl (hM.callO (l := []) fun X S oL hS hR hO => ct_laws_toIntS _ X S aT s_aT hS (hR _ (.head _)) oL h493) ?_
              rintro _ w494 ⟨s495, rfl, hM⟩
              replace hM : St ⟨w, X, S⟩ [oC (cSl 1 fI r492) s495.v, oC (cSl 3 fDPart r478) s481.v, oC (cSl 1 fLDPart r458.undo) s461.v, oC (cSl 1 fLDPart r458.redo) s462.v, oBox b430 #[(.int .i64 r419.1.n), s422.v, s423.v] 48, oC (cSl 1 fLDPart r419.1.undo) s422.v, oC (cSl 1 fLDPart r419.1.redo) s423.v, oC (cSl 1 fI r410) s413.v, oC (cSl 3 fDPart r403) s406.v, oBox b397 #[(.int .i64 r389.n), s392.v, s393.v] 48, oC (cSl 1 fLDPart r389.undo) s392.v, oC (cSl 1 fLDPart r389.redo) s393.v, oBox b382 #[(.int .i64 r371.1.n), s374.v, s375.v] 48, oC (cSl 1 fLDPart r371.1.undo) s374.v, oC (cSl 1 fLDPart r371.1.redo) s375.v, oC (cSl 1 fI r366) s369.v, oC (cSl 3 fDPart r360) s363.v, oC (cSl 1 fLDPart r352.undo) s355.v, oC (cSl 1 fLDPart r352.redo) s356.v, oBox b319 #[(.int .i64 aP.n), s_aP_1.v, s_aP_2.v] 43] [rV s_aT.v (cSl 1 fI aT), rV s_aO.v (cSl 3 fDPart aO), rV s_aP_2.v (cSl 1 fLDPart aP.redo), rV s_aP_1.v (cSl 1 fLDPart aP.undo)] _ := hM
              obtain ⟨r497, h498, hx⟩ := bind_some' hx
              refine w_call rfl rfl (hM.callV fun X S oL hS hR hO => ct_laws_eqIntS _ X S r410 s413 r492 s495 hS (seeA hO (.tail _ (.tail _ (.tail _ (.tail _ (.tail _ (.tail _ (.tail _ (.head _))))))))) (seeA hO (.head _)) oL h498) ?_
              rintro _ w499 ⟨rfl, hR500⟩
              have hM := hM.call hR500
              refine wv rfl (r_not rfl) ?_
              refine wl_nil ?_
              refine sq_n ?_
              refine wc_cond rfl (fun hc502 => ?_) (fun hc502 => ?_)
              · replace hx := xif_t hc502 hx
                refine wc_seq ?_
                refine wc_region ?_
                refine wv rfl (r_assign rfl) ?_
                refine wl_nil ?_
                refine sq_n ?_
                refine wc_ret ?_
                refine sq_ret ?_
                obtain rfl := Option.some.inj hx
                refine fin_ret [(.bool false)] ⟨rfl, trivial⟩ ?_
                replace hM : St ⟨w, X, S⟩ [] [rV s_aT.v (cSl 1 fI aT), rV s_aO.v (cSl 3 fDPart aO), rV s_aP_2.v (cSl 1 fLDPart aP.redo), rV s_aP_1.v (cSl 1 fLDPart aP.undo)] _ := hM.tk 0
                have hM := hM.fewer rsN
                exact ⟨(), rfl, hM.gives⟩
              · replace hx := xif_f hc502 hx
                refine wc_skip ?_
                refine sq_n ?_
                refine wc_seq ?_
                refine wc_region ?_
                refine wv rfl (r_assign rfl) ?_
                refine wl_nil ?_
                refine sq_n ?_
                refine wc_seq ?_
                refine wc_region ?_
                refine wv rfl (r_ldBS Try.underlying48 sz48 rfl (us := [(.int .i64 r389.n), s392.v, s393.v]) rfl hM (.tail _ (.tail _ (.tail _ (.tail _ (.tail _ (.tail _ (.tail _ (.tail _ (.tail _ (.head _)))))))))) rfl) ?_
                refine wv rfl (r_move rfl) ?_
                replace hM : St ⟨w, X, S⟩ [oC (cSl 1 fLDPart r389.undo) s392.v, oC (cSl 1 fLDPart r389.redo) s393.v, oC (cSl 1 fI r492) s495.v, oC (cSl 3 fDPart r478) s481.v, oC (cSl 1 fLDPart r458.undo) s461.v, oC (cSl 1 fLDPart r458.redo) s462.v, oBox b430 #[(.int .i64 r419.1.n), s422.v, s423.v] 48, oC (cSl 1 fLDPart r419.1.undo) s422.v, oC (cSl 1 fLDPart r419.1.redo) s423.v, oC (cSl 1 fI r410) s413.v, oC (cSl 3 fDPart r403) s406.v, oBox b397 #[(.int .i64 r389.n), s392.v, s393.v] 48, oBox b382 #[(.int .i64 r371.1.n), s374.v, s375.v] 48, oC (cSl 1 fLDPart r371.1.undo) s374.v, oC (cSl 1 fLDPart r371.1.redo) s375.v, oC (cSl 1 fI r366) s369.v, oC (cSl 3 fDPart r360) s363.v, oC (cSl 1 fLDPart r352.undo) s355.v, oC (cSl 1 fLDPart r352.redo) s356.v, oBox b319 #[(.int .i64 aP.n), s_aP_1.v, s_aP_2.v] 43] [rV s_aT.v (cSl 1 fI aT), rV s_aO.v (cSl 3 fDPart aO), rV s_aP_2.v (cSl 1 fLDPart aP.redo), rV s_aP_1.v (cSl 1 fLDPart aP.undo)] _ := hM.pl [11, 11]
                obtain ⟨r507, h508, hx⟩ := bind_some' hx
                refine w_call rfl rfl (hM.callO (l := [oC (cSl 1 fLDPart r389.undo) s392.v, oC (cSl 1 fLDPart r389.redo) s393.v]) fun X S oL hS hR hO => ct_laws_markStory _ X S r389 s392 s393 (1 : Int) hS  oL h508) ?_
                rintro _ w509 ⟨_, rfl, hM⟩
                replace hM : St ⟨w, X, S⟩ [oC (cSl 1 fLDPart r507.2.undo) s392.v, oC (cSl 1 fLDPart r507.2.redo) s393.v, oC (cSl 1 fI r492) s495.v, oC (cSl 3 fDPart r478) s481.v, oC (cSl 1 fLDPart r458.undo) s461.v, oC (cSl 1 fLDPart r458.redo) s462.v, oBox b430 #[(.int .i64 r419.1.n), s422.v, s423.v] 48, oC (cSl 1 fLDPart r419.1.undo) s422.v, oC (cSl 1 fLDPart r419.1.redo) s423.v, oC (cSl 1 fI r410) s413.v, oC (cSl 3 fDPart r403) s406.v, oBox b397 #[(.int .i64 r389.n), s392.v, s393.v] 48, oBox b382 #[(.int .i64 r371.1.n), s374.v, s375.v] 48, oC (cSl 1 fLDPart r371.1.undo) s374.v, oC (cSl 1 fLDPart r371.1.redo) s375.v, oC (cSl 1 fI r366) s369.v, oC (cSl 3 fDPart r360) s363.v, oC (cSl 1 fLDPart r352.undo) s355.v, oC (cSl 1 fLDPart r352.redo) s356.v, oBox b319 #[(.int .i64 aP.n), s_aP_1.v, s_aP_2.v] 43] [rV s_aT.v (cSl 1 fI aT), rV s_aO.v (cSl 3 fDPart aO), rV s_aP_2.v (cSl 1 fLDPart aP.redo), rV s_aP_1.v (cSl 1 fLDPart aP.undo)] _ := hM
                refine wv rfl (r_assign rfl) ?_
                refine wl_nil ?_
                refine sq_n ?_
                refine wc_seq ?_
                refine wc_region ?_
                refine wv rfl (r_move rfl) ?_
                refine wv rfl (r_move rfl) ?_
                replace hM : St ⟨w, X, S⟩ [oC (cSl 3 fDPart r403) s406.v, oC (cSl 1 fLDPart r507.2.undo) s392.v, oC (cSl 1 fLDPart r507.2.redo) s393.v, oC (cSl 1 fI r492) s495.v, oC (cSl 3 fDPart r478) s481.v, oC (cSl 1 fLDPart r458.undo) s461.v, oC (cSl 1 fLDPart r458.redo) s462.v, oBox b430 #[(.int .i64 r419.1.n), s422.v, s423.v] 48, oC (cSl 1 fLDPart r419.1.undo) s422.v, oC (cSl 1 fLDPart r419.1.redo) s423.v, oC (cSl 1 fI r410) s413.v, oBox b397 #[(.int .i64 r389.n), s392.v, s393.v] 48, oBox b382 #[(.int .i64 r371.1.n), s374.v, s375.v] 48, oC (cSl 1 fLDPart r371.1.undo) s374.v, oC (cSl 1 fLDPart r371.1.redo) s375.v, oC (cSl 1 fI r366) s369.v, oC (cSl 3 fDPart r360) s363.v, oC (cSl 1 fLDPart r352.undo) s355.v, oC (cSl 1 fLDPart r352.redo) s356.v, oBox b319 #[(.int .i64 aP.n), s_aP_1.v, s_aP_2.v] 43] [rV s_aT.v (cSl 1 fI aT), rV s_aO.v (cSl 3 fDPart aO), rV s_aP_2.v (cSl 1 fLDPart aP.redo), rV s_aP_1.v (cSl 1 fLDPart aP.undo)] _ := hM.pl [10]
                obtain ⟨r513, h514, hx⟩ := bind_some' hx
                refine w_call rfl rfl (hM.callO (l := [oC (cSl 3 fDPart r403) s406.v]) fun X S oL hS hR hO => ct_laws_markPartS _ X S r403 s406 r507.1 hS  oL h514) ?_
                rintro _ w515 ⟨_, rfl, hM⟩
                replace hM : St ⟨w, X, S⟩ [oC (cSl 3 fDPart r513.2) s406.v, oC (cSl 1 fLDPart r507.2.undo) s392.v, oC (cSl 1 fLDPart r507.2.redo) s393.v, oC (cSl 1 fI r492) s495.v, oC (cSl 3 fDPart r478) s481.v, oC (cSl 1 fLDPart r458.undo) s461.v, oC (cSl 1 fLDPart r458.redo) s462.v, oBox b430 #[(.int .i64 r419.1.n), s422.v, s423.v] 48, oC (cSl 1 fLDPart r419.1.undo) s422.v, oC (cSl 1 fLDPart r419.1.redo) s423.v, oC (cSl 1 fI r410) s413.v, oBox b397 #[(.int .i64 r389.n), s392.v, s393.v] 48, oBox b382 #[(.int .i64 r371.1.n), s374.v, s375.v] 48, oC (cSl 1 fLDPart r371.1.undo) s374.v, oC (cSl 1 fLDPart r371.1.redo) s375.v, oC (cSl 1 fI r366) s369.v, oC (cSl 3 fDPart r360) s363.v, oC (cSl 1 fLDPart r352.undo) s355.v, oC (cSl 1 fLDPart r352.redo) s356.v, oBox b319 #[(.int .i64 aP.n), s_aP_1.v, s_aP_2.v] 43] [rV s_aT.v (cSl 1 fI aT), rV s_aO.v (cSl 3 fDPart aO), rV s_aP_2.v (cSl 1 fLDPart aP.redo), rV s_aP_1.v (cSl 1 fLDPart aP.undo)] _ := hM
                refine wv rfl (r_assign rfl) ?_
                refine wl_nil ?_
                refine sq_n ?_
                refine wc_seq ?_
                refine wc_region ?_
                refine wv rfl (r_move rfl) ?_
                refine wv rfl (r_move rfl) ?_
                replace hM : St ⟨w, X, S⟩ [oC (cSl 1 fI r410) s413.v, oC (cSl 3 fDPart r513.2) s406.v, oC (cSl 1 fLDPart r507.2.undo) s392.v, oC (cSl 1 fLDPart r507.2.redo) s393.v, oC (cSl 1 fI r492) s495.v, oC (cSl 3 fDPart r478) s481.v, oC (cSl 1 fLDPart r458.undo) s461.v, oC (cSl 1 fLDPart r458.redo) s462.v, oBox b430 #[(.int .i64 r419.1.n), s422.v, s423.v] 48, oC (cSl 1 fLDPart r419.1.undo) s422.v, oC (cSl 1 fLDPart r419.1.redo) s423.v, oBox b397 #[(.int .i64 r389.n), s392.v, s393.v] 48, oBox b382 #[(.int .i64 r371.1.n), s374.v, s375.v] 48, oC (cSl 1 fLDPart r371.1.undo) s374.v, oC (cSl 1 fLDPart r371.1.redo) s375.v, oC (cSl 1 fI r366) s369.v, oC (cSl 3 fDPart r360) s363.v, oC (cSl 1 fLDPart r352.undo) s355.v, oC (cSl 1 fLDPart r352.redo) s356.v, oBox b319 #[(.int .i64 aP.n), s_aP_1.v, s_aP_2.v] 43] [rV s_aT.v (cSl 1 fI aT), rV s_aO.v (cSl 3 fDPart aO), rV s_aP_2.v (cSl 1 fLDPart aP.redo), rV s_aP_1.v (cSl 1 fLDPart aP.undo)] _ := hM.pl [10]
                obtain ⟨r519, h520, hx⟩ := bind_some' hx
                refine w_call rfl rfl (hM.callO (l := [oC (cSl 1 fI r410) s413.v]) fun X S oL hS hR hO => ct_laws_markIntS _ X S r410 s413 r513.1 hS  oL h520) ?_
                rintro _ w521 ⟨_, rfl, hM⟩
                replace hM : St ⟨w, X, S⟩ [oC (cSl 1 fI r519.2) s413.v, oC (cSl 3 fDPart r513.2) s406.v, oC (cSl 1 fLDPart r507.2.undo) s392.v, oC (cSl 1 fLDPart r507.2.redo) s393.v, oC (cSl 1 fI r492) s495.v, oC (cSl 3 fDPart r478) s481.v, oC (cSl 1 fLDPart r458.undo) s461.v, oC (cSl 1 fLDPart r458.redo) s462.v, oBox b430 #[(.int .i64 r419.1.n), s422.v, s423.v] 48, oC (cSl 1 fLDPart r419.1.undo) s422.v, oC (cSl 1 fLDPart r419.1.redo) s423.v, oBox b397 #[(.int .i64 r389.n), s392.v, s393.v] 48, oBox b382 #[(.int .i64 r371.1.n), s374.v, s375.v] 48, oC (cSl 1 fLDPart r371.1.undo) s374.v, oC (cSl 1 fLDPart r371.1.redo) s375.v, oC (cSl 1 fI r366) s369.v, oC (cSl 3 fDPart r360) s363.v, oC (cSl 1 fLDPart r352.undo) s355.v, oC (cSl 1 fLDPart r352.redo) s356.v, oBox b319 #[(.int .i64 aP.n), s_aP_1.v, s_aP_2.v] 43] [rV s_aT.v (cSl 1 fI aT), rV s_aO.v (cSl 3 fDPart aO), rV s_aP_2.v (cSl 1 fLDPart aP.redo), rV s_aP_1.v (cSl 1 fLDPart aP.undo)] _ := hM
                refine wv rfl (r_assign rfl) ?_
                refine wl_nil ?_
                refine sq_n ?_
                refine wc_seq ?_
                refine wc_seq ?_
                refine wc_region ?_
                refine wv rfl (r_move rfl) ?_
                refine wv rfl (r_lss rfl rfl) ?_
                refine wv rfl (r_move rfl) ?_
                obtain ⟨c526, hx, hx535⟩ := bind_some' hx
                refine wl_mid 5 (fun _ : Unit => [(96, (.bool c526)), (1, s_aO.v), (2, s_aT.v), (3, (.pointer (some ⟨b319, 0, none⟩))), (8, (.pointer (some ⟨b382, 0, none⟩))), (9, (.bool r371.2)), (13, (.pointer (some ⟨b430, 0, none⟩))), (14, (.bool r419.2))]) (fun _ w' => St ⟨w, X, S⟩ [oC (cSl 1 fI r519.2) s413.v, oC (cSl 3 fDPart r513.2) s406.v, oC (cSl 1 fLDPart r507.2.undo) s392.v, oC (cSl 1 fLDPart r507.2.redo) s393.v, oC (cSl 1 fI r492) s495.v, oC (cSl 3 fDPart r478) s481.v, oC (cSl 1 fLDPart r458.undo) s461.v, oC (cSl 1 fLDPart r458.redo) s462.v, oBox b430 #[(.int .i64 r419.1.n), s422.v, s423.v] 48, oC (cSl 1 fLDPart r419.1.undo) s422.v, oC (cSl 1 fLDPart r419.1.redo) s423.v, oBox b397 #[(.int .i64 r389.n), s392.v, s393.v] 48, oBox b382 #[(.int .i64 r371.1.n), s374.v, s375.v] 48, oC (cSl 1 fLDPart r371.1.undo) s374.v, oC (cSl 1 fLDPart r371.1.redo) s375.v, oC (cSl 1 fI r366) s369.v, oC (cSl 3 fDPart r360) s363.v, oC (cSl 1 fLDPart r352.undo) s355.v, oC (cSl 1 fLDPart r352.redo) s356.v, oBox b319 #[(.int .i64 aP.n), s_aP_1.v, s_aP_2.v] 43] [rV s_aT.v (cSl 1 fI aT), rV s_aO.v (cSl 3 fDPart aO), rV s_aP_2.v (cSl 1 fLDPart aP.redo), rV s_aP_1.v (cSl 1 fLDPart aP.undo)] w') ?_ ?_
                · rcases Bool.eq_false_or_eq_true (decide (r519.1 < 0)) with hg527 | hg527
                  · replace hx := xif_t hg527 hx
                    refine gs rfl (isB_no hg527) rfl ?_
                    refine gs rfl (isB_no hg527) rfl ?_
                    refine gs rfl (isB_no hg527) rfl ?_
                    refine gs rfl (isB_no hg527) rfl ?_
                    refine wv rfl (p_t rfl hg527 rfl) ?_
                    obtain rfl := Option.some.inj hx
                    exact mid_nil () ⟨rfl, rfl, rfl, rfl, rfl, rfl, rfl, rfl, trivial⟩ hM
                  · replace hx := xif_f hg527 hx
                    refine gv rfl hg527 rfl (r_ldBS Try.underlying48 sz48 rfl (us := [(.int .i64 r419.1.n), s422.v, s423.v]) rfl hM (.tail _ (.tail _ (.tail _ (.tail _ (.tail _ (.tail _ (.tail _ (.tail _ (.head _))))))))) rfl) ?_
                    refine gv rfl hg527 rfl (r_ldBS Try.underlying48 sz48 rfl (us := [(.int .i64 r371.1.n), s374.v, s375.v]) rfl hM (.tail _ (.tail _ (.tail _ (.tail _ (.tail _ (.tail _ (.tail _ (.tail _ (.tail _ (.tail _ (.tail _ (.tail _ (.head _))))))))))))) rfl) ?_
                    obtain ⟨r538, h539, hx⟩ := bind_some' hx
                    refine gc rfl hg527 rfl rfl (hM.callV fun X S oL hS hR hO => ct_laws_eqStory _ X S r419.1 s422 s423 r371.1 s374 s375 hS (seeA hO (.tail _ (.tail _ (.tail _ (.tail _ (.tail _ (.tail _ (.tail _ (.tail _ (.tail _ (.head _))))))))))) (seeA hO (.tail _ (.tail _ (.tail _ (.tail _ (.tail _ (.tail _ (.tail _ (.tail _ (.tail _ (.tail _ (.head _)))))))))))) (seeA hO (.tail _ (.tail _ (.tail _ (.tail _ (.tail _ (.tail _ (.tail _ (.tail _ (.tail _ (.tail _ (.tail _ (.tail _ (.tail _ (.head _))))))))))))))) (seeA hO (.tail _ (.tail _ (.tail _ (.tail _ (.tail _ (.tail _ (.tail _ (.tail _ (.tail _ (.tail _ (.tail _ (.tail _ (.tail _ (.tail _ (.head _)))))))))))))))) oL h539) ?_
                    rintro _ w540 ⟨rfl, hR541⟩
                    have hM := hM.call hR541
                    refine gv rfl hg527 rfl (r_not rfl) ?_
                    refine wv rfl (p_f rfl hg527 rfl) ?_
                    obtain rfl := Option.some.inj hx
                    exact mid_nil () ⟨rfl, rfl, rfl, rfl, rfl, rfl, rfl, rfl, trivial⟩ hM
                rintro _ w543 hM
                replace hx := hx535
                refine wv rfl (r_move rfl) ?_
                obtain ⟨c545, hx, hx550⟩ := bind_some' hx
                refine wl_mid 4 (fun _ : Unit => [(101, (.bool c545)), (1, s_aO.v), (2, s_aT.v), (3, (.pointer (some ⟨b319, 0, none⟩))), (8, (.pointer (some ⟨b382, 0, none⟩))), (9, (.bool r371.2)), (13, (.pointer (some ⟨b430, 0, none⟩)))]) (fun _ w' => St ⟨w, X, S⟩ [oC (cSl 1 fI r519.2) s413.v, oC (cSl 3 fDPart r513.2) s406.v, oC (cSl 1 fLDPart r507.2.undo) s392.v, oC (cSl 1 fLDPart r507.2.redo) s393.v, oC (cSl 1 fI r492) s495.v, oC (cSl 3 fDPart r478) s481.v, oC (cSl 1 fLDPart r458.undo) s461.v, oC (cSl 1 fLDPart r458.redo) s462.v, oBox b430 #[(.int .i64 r419.1.n), s422.v, s423.v] 48, oC (cSl 1 fLDPart r419.1.undo) s422.v, oC (cSl 1 fLDPart r419.1.redo) s423.v, oBox b397 #[(.int .i64 r389.n), s392.v, s393.v] 48, oBox b382 #[(.int .i64 r371.1.n), s374.v, s375.v] 48, oC (cSl 1 fLDPart r371.1.undo) s374.v, oC (cSl 1 fLDPart r371.1.redo) s375.v, oC (cSl 1 fI r366) s369.v, oC (cSl 3 fDPart r360) s363.v, oC (cSl 1 fLDPart r352.undo) s355.v, oC (cSl 1 fLDPart r352.redo) s356.v, oBox b319 #[(.int .i64 aP.n), s_aP_1.v, s_aP_2.v] 43] [rV s_aT.v (cSl 1 fI aT), rV s_aO.v (cSl 3 fDPart aO), rV s_aP_2.v (cSl 1 fLDPart aP.redo), rV s_aP_1.v (cSl 1 fLDPart aP.undo)] w') ?_ ?_
                · rcases Bool.eq_false_or_eq_true c526 with hg546 | hg546
                  · replace hx := xif_t hg546 hx
                    refine gs rfl (isB_no hg546) rfl ?_
                    refine gs rfl (isB_no hg546) rfl ?_
                    refine gs rfl (isB_no hg546) rfl ?_
                    refine wv rfl (p_t rfl hg546 rfl) ?_
                    obtain rfl := Option.some.inj hx
                    exact mid_nil () ⟨rfl, rfl, rfl, rfl, rfl, rfl, rfl, trivial⟩ hM
                  · replace hx := xif_f hg546 hx
                    refine gv rfl hg546 rfl (r_move rfl) ?_
                    refine gv rfl hg546 rfl (r_move rfl) ?_
                    refine gv rfl hg546 rfl (r_neqb Try.underlying4 rfl rfl) ?_
                    refine wv rfl (p_f rfl hg546 rfl) ?_
                    obtain rfl := Option.some.inj hx
                    exact mid_nil () ⟨rfl, rfl, rfl, rfl, rfl, rfl, rfl, trivial⟩ hM
                rintro _ w554 hM
                replace hx := hx550
                refine wl_nil ?_
                refine sq_n ?_
                refine wc_cond rfl (fun hc555 => ?_) (fun hc555 => ?_)
                · replace hx := xif_t hc555 hx
                  refine wc_seq ?_
                  refine wc_region ?_
                  refine wv rfl (r_assign rfl) ?_
                  refine wl_nil ?_
                  refine sq_n ?_
                  refine wc_ret ?_
                  refine sq_ret ?_
                  obtain rfl := Option.some.inj hx
                  refine fin_ret [(.bool false)] ⟨rfl, trivial⟩ ?_
                  replace hM : St ⟨w, X, S⟩ [] [rV s_aT.v (cSl 1 fI aT), rV s_aO.v (cSl 3 fDPart aO), rV s_aP_2.v (cSl 1 fLDPart aP.redo), rV s_aP_1.v (cSl 1 fLDPart aP.undo)] _ := hM.tk 0
                  have hM := hM.fewer rsN
                  exact ⟨(), rfl, hM.gives⟩
                · replace hx := xif_f hc555 hx
                  refine wc_skip ?_
                  refine sq_n ?_
                  refine wc_seq ?_
                  refine wc_region ?_
                  refine wv rfl (r_assign rfl) ?_
                  refine wl_nil ?_
                  refine sq_n ?_
                  refine wc_seq ?_
                  refine wc_region ?_
                  refine wv rfl (r_ldBS Try.underlying48 sz48 rfl (us := [(.int .i64 r419.1.n), s422.v, s423.v]) rfl hM (.tail _ (.tail _ (.tail _ (.tail _ (.tail _ (.tail _ (.tail _ (.tail _ (.head _))))))))) rfl) ?_
                  refine wv rfl (r_move rfl) ?_
                  replace hM : St ⟨w, X, S⟩ [oC (cSl 1 fLDPart r419.1.undo) s422.v, oC (cSl 1 fLDPart r419.1.redo) s423.v, oC (cSl 1 fI r519.2) s413.v, oC (cSl 3 fDPart r513.2) s406.v, oC (cSl 1 fLDPart r507.2.undo) s392.v, oC (cSl 1 fLDPart r507.2.redo) s393.v, oC (cSl 1 fI r492) s495.v, oC (cSl 3 fDPart r478) s481.v, oC (cSl 1 fLDPart r458.undo) s461.v, oC (cSl 1 fLDPart r458.redo) s462.v, oBox b430 #[(.int .i64 r419.1.n), s422.v, s423.v] 48, oBox b397 #[(.int .i64 r389.n), s392.v, s393.v] 48, oBox b382 #[(.int .i64 r371.1.n), s374.v, s375.v] 48, oC (cSl 1 fLDPart r371.1.undo) s374.v, oC (cSl 1 fLDPart r371.1.redo) s375.v, oC (cSl 1 fI r366) s369.v, oC (cSl 3 fDPart r360) s363.v, oC (cSl 1 fLDPart r352.undo) s355.v, oC (cSl 1 fLDPart r352.redo) s356.v, oBox b319 #[(.int .i64 aP.n), s_aP_1.v, s_aP_2.v] 43] [rV s_aT.v (cSl 1 fI aT), rV s_aO.v (cSl 3 fDPart aO), rV s_aP_2.v (cSl 1 fLDPart aP.redo), rV s_aP_1.v (cSl 1 fLDPart aP.undo)] _ := hM.pl [10, 10]
                  obtain ⟨r560, h561, hx⟩ := bind_some' hx
                  refine w_call rfl rfl (hM.callO (l := [oC (cSl 1 fLDPart r419.1.undo) s422.v, oC (cSl 1 fLDPart r419.1.redo) s423.v]) fun X S oL hS hR hO => ct_laws_markStory _ X S r419.1 s422 s423 (1 : Int) hS  oL h561) ?_
                  rintro _ w562 ⟨_, rfl, hM⟩
                  replace hM : St ⟨w, X, S⟩ [oC (cSl 1 fLDPart r560.2.undo) s422.v, oC (cSl 1 fLDPart r560.2.redo) s423.v, oC (cSl 1 fI r519.2) s413.v, oC (cSl 3 fDPart r513.2) s406.v, oC (cSl 1 fLDPart r507.2.undo) s392.v, oC (cSl 1 fLDPart r507.2.redo) s393.v, oC (cSl 1 fI r492) s495.v, oC (cSl 3 fDPart r478) s481.v, oC (cSl 1 fLDPart r458.undo) s461.v, oC (cSl 1 fLDPart r458.redo) s462.v, oBox b430 #[(.int .i64 r419.1.n), s422.v, s423.v] 48, oBox b397 #[(.int .i64 r389.n), s392.v, s393.v] 48, oBox b382 #[(.int .i64 r371.1.n), s374.v, s375.v] 48, oC (cSl 1 fLDPart r371.1.undo) s374.v, oC (cSl 1 fLDPart r371.1.redo) s375.v, oC (cSl 1 fI r366) s369.v, oC (cSl 3 fDPart r360) s363.v, oC (cSl 1 fLDPart r352.undo) s355.v, oC (cSl 1 fLDPart r352.redo) s356.v, oBox b319 #[(.int .i64 aP.n), s_aP_1.v, s_aP_2.v] 43] [rV s_aT.v (cSl 1 fI aT), rV s_aO.v (cSl 3 fDPart aO), rV s_aP_2.v (cSl 1 fLDPart aP.redo), rV s_aP_1.v (cSl 1 fLDPart aP.undo)] _ := hM
                  refine wv rfl (r_assign rfl) ?_
                  refine wl_nil ?_
                  refine sq_n ?_
                  refine wc_seq ?_
                  refine wc_region ?_
                  refine wv rfl (r_assign rfl) ?_
                  refine wl_nil ?_
                  refine sq_n ?_
                  refine wc_seq ?_
                  refine wc_region ?_
                  refine wv rfl (r_ldBS Try.underlying48 sz48 rfl (us := [(.int .i64 r419.1.n), s422.v, s423.v]) rfl hM (.tail _ (.tail _ (.tail _ (.tail _ (.tail _ (.tail _ (.tail _ (.tail _ (.tail _ (.tail _ (.head _))))))))))) rfl) ?_
                  refine wv rfl (r_move rfl) ?_
                  obtain ⟨r567, h568, hx⟩ := bind_some' hx
                  refine w_call rfl rfl (hM.callV fun X S oL hS hR hO => ct_laws_heldStory _ X S (⟨r419.1.n, r560.2.undo, r560.2.redo⟩ : DStory) s422 s423 (1 : Int) hS (seeA hO (.head _)) (seeA hO (.tail _ (.head _))) oL h568) ?_
                  rintro _ w569 ⟨rfl, hR570⟩
                  have hM := hM.call hR570
                  refine wv rfl (r_assign rfl) ?_
                  refine wl_nil ?_
                  refine sq_n ?_
                  refine wc_seq ?_
                  refine wc_seq ?_
                  refine wc_region ?_
                  refine wv rfl (r_move rfl) ?_
                  refine wv rfl (r_lss rfl rfl) ?_
                  refine wl_nil ?_
                  refine sq_n ?_
                  refine wc_cond rfl (fun hc574 => ?_) (fun hc574 => ?_)
                  · replace hx := xif_t hc574 hx
                    refine wc_seq ?_
                    refine wc_region ?_
                    refine wv rfl (r_assign rfl) ?_
                    refine wl_nil ?_
                    refine sq_n ?_
                    refine wc_ret ?_
                    refine sq_ret ?_
                    obtain rfl := Option.some.inj hx
                    refine fin_ret [(.bool false)] ⟨rfl, trivial⟩ ?_
                    replace hM : St ⟨w, X, S⟩ [] [rV s_aT.v (cSl 1 fI aT), rV s_aO.v (cSl 3 fDPart aO), rV s_aP_2.v (cSl 1 fLDPart aP.redo), rV s_aP_1.v (cSl 1 fLDPart aP.undo)] _ := hM.tk 0
                    have hM := hM.fewer rsN
                    exact ⟨(), rfl, hM.gives⟩
                  · replace hx := xif_f hc574 hx
                    refine wc_skip ?_
                    refine sq_n ?_
                    refine wc_seq ?_
                    refine wc_seq ?_
                    refine wc_region ?_
                    refine wv rfl (r_move rfl) ?_
                    refine wv rfl (r_move rfl) ?_
                    refine wv rfl (r_neq rfl rfl) ?_
                    refine wl_nil ?_
                    refine sq_n ?_
                    refine wc_cond rfl (fun hc579 => ?_) (fun hc579 => ?_)
                    · replace hx := xif_t hc579 hx
                      refine wc_seq ?_
                      refine wc_region ?_
                      refine wv rfl (r_assign rfl) ?_
                      refine wl_nil ?_
                      refine sq_n ?_
                      refine wc_ret ?_
                      refine sq_ret ?_
                      obtain rfl := Option.some.inj hx
                      refine fin_ret [(.bool false)] ⟨rfl, trivial⟩ ?_
                      replace hM : St ⟨w, X, S⟩ [] [rV s_aT.v (cSl 1 fI aT), rV s_aO.v (cSl 3 fDPart aO), rV s_aP_2.v (cSl 1 fLDPart aP.redo), rV s_aP_1.v (cSl 1 fLDPart aP.undo)] _ := hM.tk 0
                      have hM := hM.fewer rsN
                      exact ⟨(), rfl, hM.gives⟩
                    · replace hx := xif_f hc579 hx
                      refine wc_skip ?_
                      refine sq_n ?_
                      refine wc_seq ?_
                      refine wc_region ?_
                      refine wv rfl (r_ldBS Try.underlying43 sz43 rfl (us := [(.int .i64 aP.n), s_aP_1.v, s_aP_2.v]) rfl hM (.tail _ (.tail _ (.tail _ (.tail _ (.tail _ (.tail _ (.tail _ (.tail _ (.tail _ (.tail _ (.tail _ (.tail _ (.tail _ (.tail _ (.tail _ (.tail _ (.tail _ (.tail _ (.tail _ (.head _)))))))))))))))))))) rfl) ?_
                      obtain ⟨r582, h583, hx⟩ := bind_some' hx
                      refine w_call rfl rfl (hM.callO (l := []) fun X S oL hS hR hO => ct_laws_toStory _ X S aP s_aP_1 s_aP_2 hS (hR _ (.tail _ (.tail _ (.tail _ (.head _))))) (hR _ (.tail _ (.tail _ (.head _)))) oL h583) ?_
                      rintro _ w584 ⟨⟨s585, s586⟩, rfl, hM⟩
                      replace hM : St ⟨w, X, S⟩ [oC (cSl 1 fLDPart r582.undo) s585.v, oC (cSl 1 fLDPart r582.redo) s586.v, oC (cSl 1 fLDPart r560.2.undo) s422.v, oC (cSl 1 fLDPart r560.2.redo) s423.v, oC (cSl 1 fI r519.2) s413.v, oC (cSl 3 fDPart r513.2) s406.v, oC (cSl 1 fLDPart r507.2.undo) s392.v, oC (cSl 1 fLDPart r507.2.redo) s393.v, oC (cSl 1 fI r492) s495.v, oC (cSl 3 fDPart r478) s481.v, oC (cSl 1 fLDPart r458.undo) s461.v, oC (cSl 1 fLDPart r458.redo) s462.v, oBox b430 #[(.int .i64 r419.1.n), s422.v, s423.v] 48, oBox b397 #[(.int .i64 r389.n), s392.v, s393.v] 48, oBox b382 #[(.int .i64 r371.1.n), s374.v, s375.v] 48, oC (cSl 1 fLDPart r371.1.undo) s374.v, oC (cSl 1 fLDPart r371.1.redo) s375.v, oC (cSl 1 fI r366) s369.v, oC (cSl 3 fDPart r360) s363.v, oC (cSl 1 fLDPart r352.undo) s355.v, oC (cSl 1 fLDPart r352.redo) s356.v, oBox b319 #[(.int .i64 aP.n), s_aP_1.v, s_aP_2.v] 43] [rV s_aT.v (cSl 1 fI aT), rV s_aO.v (cSl 3 fDPart aO), rV s_aP_2.v (cSl 1 fLDPart aP.redo), rV s_aP_1.v (cSl 1 fLDPart aP.undo)] _ := hM
                      refine wv rfl (r_move rfl) ?_
                      obtain ⟨r590, h591, hx⟩ := bind_some' hx
                      refine w_call rfl rfl (hM.callO (l := []) fun X S oL hS hR hO => ct_laws_toPartS _ X S aO s_aO hS (hR _ (.tail _ (.head _))) oL h591) ?_
                      rintro _ w592 ⟨s593, rfl, hM⟩
                      replace hM : St ⟨w, X, S⟩ [oC (cSl 3 fDPart r590) s593.v, oC (cSl 1 fLDPart r582.undo) s585.v, oC (cSl 1 fLDPart r582.redo) s586.v, oC (cSl 1 fLDPart r560.2.undo) s422.v, oC (cSl 1 fLDPart r560.2.redo) s423.v, oC (cSl 1 fI r519.2) s413.v, oC (cSl 3 fDPart r513.2) s406.v, oC (cSl 1 fLDPart r507.2.undo) s392.v, oC (cSl 1 fLDPart r507.2.redo) s393.v, oC (cSl 1 fI r492) s495.v, oC (cSl 3 fDPart r478) s481.v, oC (cSl 1 fLDPart r458.undo) s461.v, oC (cSl 1 fLDPart r458.redo) s462.v, oBox b430 #[(.int .i64 r419.1.n), s422.v, s423.v] 48, oBox b397 #[(.int .i64 r389.n), s392.v, s393.v] 48, oBox b382 #[(.int .i64 r371.1.n), s374.v, s375.v] 48, oC (cSl 1 fLDPart r371.1.undo) s374.v, oC (cSl 1 fLDPart r371.1.redo) s375.v, oC (cSl 1 fI r366) s369.v, oC (cSl 3 fDPart r360) s363.v, oC (cSl 1 fLDPart r352.undo) s355.v, oC (cSl 1 fLDPart r352.redo) s356.v, oBox b319 #[(.int .i64 aP.n), s_aP_1.v, s_aP_2.v] 43] [rV s_aT.v (cSl 1 fI aT), rV s_aO.v (cSl 3 fDPart aO), rV s_aP_2.v (cSl 1 fLDPart aP.redo), rV s_aP_1.v (cSl 1 fLDPart aP.undo)] _ := hM
                      refine wv rfl (r_move rfl) ?_
                      obtain ⟨r596, h597, hx⟩ := bind_some' hx
                      refine w_call rfl rfl (hM.callO (l := []) fun X S oL hS hR hO => ct_laws_toIntS _ X S aT s_aT hS (hR _ (.head _)) oL h597) ?_
                      rintro _ w598 ⟨s599, rfl, hM⟩
                      replace hM : St ⟨w, X, S⟩ [oC (cSl 1 fI r596) s599.v, oC (cSl 3 fDPart r590) s593.v, oC (cSl 1 fLDPart r582.undo) s585.v, oC (cSl 1 fLDPart r582.redo) s586.v, oC (cSl 1 fLDPart r560.2.undo) s422.v, oC (cSl 1 fLDPart r560.2.redo) s423.v, oC (cSl 1 fI r519.2) s413.v, oC (cSl 3 fDPart r513.2) s406.v, oC (cSl 1 fLDPart r507.2.undo) s392.v, oC (cSl 1 fLDPart r507.2.redo) s393.v, oC (cSl 1 fI r492) s495.v, oC (cSl 3 fDPart r478) s481.v, oC (cSl 1 fLDPart r458.undo) s461.v, oC (cSl 1 fLDPart r458.redo) s462.v, oBox b430 #[(.int .i64 r419.1.n), s422.v, s423.v] 48, oBox b397 #[(.int .i64 r389.n), s392.v, s393.v] 48, oBox b382 #[(.int .i64 r371.1.n), s374.v, s375.v] 48, oC (cSl 1 fLDPart r371.1.undo) s374.v, oC (cSl 1 fLDPart r371.1.redo) s375.v, oC (cSl 1 fI r366) s369.v, oC (cSl 3 fDPart r360) s363.v, oC (cSl 1 fLDPart r352.undo) s355.v, oC (cSl 1 fLDPart r352.redo) s356.v, oBox b319 #[(.int .i64 aP.n), s_aP_1.v, s_aP_2.v] 43] [rV s_aT.v (cSl 1 fI aT), rV s_aO.v (cSl 3 fDPart aO), rV s_aP_2.v (cSl 1 fLDPart aP.redo), rV s_aP_1.v (cSl 1 fLDPart aP.undo)] _ := hM
                      obtain ⟨r601, h602, hx⟩ := bind_some' hx
                      refine w_call rfl rfl (hM.callO (l := []) fun X S oL hS hR hO => ct_impl_PastDo _ X S r582 s585 s586 r590 s593 r596 s599 hS (seeA hO (.tail _ (.tail _ (.head _)))) (seeA hO (.tail _ (.tail _ (.tail _ (.head _))))) (seeA hO (.tail _ (.head _))) (seeA hO (.head _)) oL h602) ?_
                      rintro _ w603 ⟨⟨s604, s605⟩, rfl, hM⟩
                      replace hM : St ⟨w, X, S⟩ [oC (cSl 1 fLDPart r601.1.undo) s604.v, oC (cSl 1 fLDPart r601.1.redo) s605.v, oC (cSl 1 fI r596) s599.v, oC (cSl 3 fDPart r590) s593.v, oC (cSl 1 fLDPart r582.undo) s585.v, oC (cSl 1 fLDPart r582.redo) s586.v, oC (cSl 1 fLDPart r560.2.undo) s422.v, oC (cSl 1 fLDPart r560.2.redo) s423.v, oC (cSl 1 fI r519.2) s413.v, oC (cSl 3 fDPart r513.2) s406.v, oC (cSl 1 fLDPart r507.2.undo) s392.v, oC (cSl 1 fLDPart r507.2.redo) s393.v, oC (cSl 1 fI r492) s495.v, oC (cSl 3 fDPart r478) s481.v, oC (cSl 1 fLDPart r458.undo) s461.v, oC (cSl 1 fLDPart r458.redo) s462.v, oBox b430 #[(.int .i64 r419.1.n), s422.v, s423.v] 48, oBox b397 #[(.int .i64 r389.n), s392.v, s393.v] 48, oBox b382 #[(.int .i64 r371.1.n), s374.v, s375.v] 48, oC (cSl 1 fLDPart r371.1.undo) s374.v, oC (cSl 1 fLDPart r371.1.redo) s375.v, oC (cSl 1 fI r366) s369.v, oC (cSl 3 fDPart r360) s363.v, oC (cSl 1 fLDPart r352.undo) s355.v, oC (cSl 1 fLDPart r352.redo) s356.v, oBox b319 #[(.int .i64 aP.n), s_aP_1.v, s_aP_2.v] 43] [rV s_aT.v (cSl 1 fI aT), rV s_aO.v (cSl 3 fDPart aO), rV s_aP_2.v (cSl 1 fLDPart aP.redo), rV s_aP_1.v (cSl 1 fLDPart aP.undo)] _ := hM
                      refine wv rfl (r_move rfl) ?_
                      refine wv rfl (r_extract rfl rfl) ?_
                      refine wv rfl (r_extract rfl rfl) ?_
                      refine w_ex rfl (x_alloc sz48 hM ?_); intro b612 w611 hR613 hM
                      replace hM : St ⟨w, X, S⟩ [oBox b612 #[(.int .i64 0), (.slice none 0 0), (.slice none 0 0)] 48, oC (cSl 1 fLDPart r601.1.undo) s604.v, oC (cSl 1 fLDPart r601.1.redo) s605.v, oC (cSl 1 fI r596) s599.v, oC (cSl 3 fDPart r590) s593.v, oC (cSl 1 fLDPart r582.undo) s585.v, oC (cSl 1 fLDPart r582.redo) s586.v, oC (cSl 1 fLDPart r560.2.undo) s422.v, oC (cSl 1 fLDPart r560.2.redo) s423.v, oC (cSl 1 fI r519.2) s413.v, oC (cSl 3 fDPart r513.2) s406.v, oC (cSl 1 fLDPart r507.2.undo) s392.v, oC (cSl 1 fLDPart r507.2.redo) s393.v, oC (cSl 1 fI r492) s495.v, oC (cSl 3 fDPart r478) s481.v, oC (cSl 1 fLDPart r458.undo) s461.v, oC (cSl 1 fLDPart r458.redo) s462.v, oBox b430 #[(.int .i64 r419.1.n), s422.v, s423.v] 48, oBox b397 #[(.int .i64 r389.n), s392.v, s393.v] 48, oBox b382 #[(.int .i64 r371.1.n), s374.v, s375.v] 48, oC (cSl 1 fLDPart r371.1.undo) s374.v, oC (cSl 1 fLDPart r371.1.redo) s375.v, oC (cSl 1 fI r366) s369.v, oC (cSl 3 fDPart r360) s363.v, oC (cSl 1 fLDPart r352.undo) s355.v, oC (cSl 1 fLDPart r352.redo) s356.v, oBox b319 #[(.int .i64 aP.n), s_aP_1.v, s_aP_2.v] 43] [rV s_aT.v (cSl 1 fI aT), rV s_aO.v (cSl 3 fDPart aO), rV s_aP_2.v (cSl 1 fLDPart aP.redo), rV s_aP_1.v (cSl 1 fLDPart aP.undo)] _ := hM
                      refine w_exu (x_stB #[(.int .i64 r601.1.n), s604.v, s605.v] sz48 rfl rfl rfl rfl rfl rfl hM ?_); intro w615 hM
                      refine wv rfl (r_assign rfl) ?_
                      refine wl_nil ?_
                      refine sq_n ?_
                      refine wc_seq ?_
                      refine wc_seq ?_
                      refine wc_region ?_
                      refine wv rfl (r_ldBS Try.underlying48 sz48 rfl (us := [(.int .i64 r601.1.n), s604.v, s605.v]) rfl hM (.head _) rfl) ?_
                      refine wv rfl (r_ldBS Try.underlying48 sz48 rfl (us := [(.int .i64 r371.1.n), s374.v, s375.v]) rfl hM (.tail _ (.tail _ (.tail _ (.tail _ (.tail _ (.tail _ (.tail _ (.tail _ (.tail _ (.tail _ (.tail _ (.tail _ (.tail _ (.tail _ (.tail _ (.tail _ (.tail _ (.tail _ (.tail _ (.head _)))))))))))))))))))) rfl) ?_
                      obtain ⟨r620, h621, hx⟩ := bind_some' hx
                      refine w_call rfl rfl (hM.callV fun X S oL hS hR hO => ct_laws_eqStory _ X S r601.1 s604 s605 r371.1 s374 s375 hS (seeA hO (.tail _ (.head _))) (seeA hO (.tail _ (.tail _ (.head _)))) (seeA hO (.tail _ (.tail _ (.tail _ (.tail _ (.tail _ (.tail _ (.tail _ (.tail _ (.tail _ (.tail _ (.tail _ (.tail _ (.tail _ (.tail _ (.tail _ (.tail _ (.tail _ (.tail _ (.tail _ (.tail _ (.head _)))))))))))))))))))))) (seeA hO (.tail _ (.tail _ (.tail _ (.tail _ (.tail _ (.tail _ (.tail _ (.tail _ (.tail _ (.tail _ (.tail _ (.tail _ (.tail _ (.tail _ (.tail _ (.tail _ (.tail _ (.tail _ (.tail _ (.tail _ (.tail _ (.head _))))))))))))))))))))))) oL h621) ?_
                      rintro _ w622 ⟨rfl, hR623⟩
                      have hM := hM.call hR623
                      refine wv rfl (r_not rfl) ?_
                      refine wv rfl (r_move rfl) ?_
                      obtain ⟨c626, hx, hx631⟩ := bind_some' hx
                      refine wl_mid 4 (fun _ : Unit => [(131, (.bool c626)), (13, (.pointer (some ⟨b430, 0, none⟩))), (16, (.int .i64 r560.1))]) (fun _ w' => St ⟨w, X, S⟩ [oBox b612 #[(.int .i64 r601.1.n), s604.v, s605.v] 48, oC (cSl 1 fLDPart r601.1.undo) s604.v, oC (cSl 1 fLDPart r601.1.redo) s605.v, oC (cSl 1 fI r596) s599.v, oC (cSl 3 fDPart r590) s593.v, oC (cSl 1 fLDPart r582.undo) s585.v, oC (cSl 1 fLDPart r582.redo) s586.v, oC (cSl 1 fLDPart r560.2.undo) s422.v, oC (cSl 1 fLDPart r560.2.redo) s423.v, oC (cSl 1 fI r519.2) s413.v, oC (cSl 3 fDPart r513.2) s406.v, oC (cSl 1 fLDPart r507.2.undo) s392.v, oC (cSl 1 fLDPart r507.2.redo) s393.v, oC (cSl 1 fI r492) s495.v, oC (cSl 3 fDPart r478) s481.v, oC (cSl 1 fLDPart r458.undo) s461.v, oC (cSl 1 fLDPart r458.redo) s462.v, oBox b430 #[(.int .i64 r419.1.n), s422.v, s423.v] 48, oBox b397 #[(.int .i64 r389.n), s392.v, s393.v] 48, oBox b382 #[(.int .i64 r371.1.n), s374.v, s375.v] 48, oC (cSl 1 fLDPart r371.1.undo) s374.v, oC (cSl 1 fLDPart r371.1.redo) s375.v, oC (cSl 1 fI r366) s369.v, oC (cSl 3 fDPart r360) s363.v, oC (cSl 1 fLDPart r352.undo) s355.v, oC (cSl 1 fLDPart r352.redo) s356.v, oBox b319 #[(.int .i64 aP.n), s_aP_1.v, s_aP_2.v] 43] [rV s_aT.v (cSl 1 fI aT), rV s_aO.v (cSl 3 fDPart aO), rV s_aP_2.v (cSl 1 fLDPart aP.redo), rV s_aP_1.v (cSl 1 fLDPart aP.undo)] w') ?_ ?_
                      · rcases Bool.eq_false_or_eq_true (!r620) with hg627 | hg627
                        · replace hx := xif_t hg627 hx
                          refine gs rfl (isB_no hg627) rfl ?_
                          refine gs rfl (isB_no hg627) rfl ?_
                          refine gs rfl (isB_no hg627) rfl ?_
                          refine wv rfl (p_t rfl hg627 rfl) ?_
                          obtain rfl := Option.some.inj hx
                          exact mid_nil () ⟨rfl, rfl, rfl, trivial⟩ hM
                        · replace hx := xif_f hg627 hx
                          refine gv rfl hg627 rfl (r_move rfl) ?_
                          refine gv rfl hg627 rfl (r_move rfl) ?_
                          refine gv rfl hg627 rfl (r_neqb Try.underlying4 rfl rfl) ?_
                          refine wv rfl (p_f rfl hg627 rfl) ?_
                          obtain rfl := Option.some.inj hx
                          exact mid_nil () ⟨rfl, rfl, rfl, trivial⟩ hM
                      rintro _ w635 hM
                      replace hx := hx631
                      refine wl_nil ?_
                      refine sq_n ?_
                      refine wc_cond rfl (fun hc636 => ?_) (fun hc636 => ?_)
                      · replace hx := xif_t hc636 hx
                        refine wc_seq ?_
                        refine wc_region ?_
                        refine wv rfl (r_assign rfl) ?_
                        refine wl_nil ?_
                        refine sq_n ?_
                        refine wc_ret ?_
                        refine sq_ret ?_
                        obtain rfl := Option.some.inj hx
                        refine fin_ret [(.bool false)] ⟨rfl, trivial⟩ ?_
                        replace hM : St ⟨w, X, S⟩ [] [rV s_aT.v (cSl 1 fI aT), rV s_aO.v (cSl 3 fDPart aO), rV s_aP_2.v (cSl 1 fLDPart aP.redo), rV s_aP_1.v (cSl 1 fLDPart aP.undo)] _ := hM.tk 0
                        have hM := hM.fewer rsN
                        exact ⟨(), rfl, hM.gives⟩
                      · replace hx := xif_f hc636 hx
                        refine wc_skip ?_
                        refine sq_n ?_
                        refine wc_seq ?_
                        refine wc_region ?_
                        refine wv rfl (r_assign rfl) ?_
                        refine wl_nil ?_
                        refine sq_n ?_
                        refine wc_seq ?_
                        refine wc_region ?_
                        refine wv rfl (r_ldBS Try.underlying48 sz48 rfl (us := [(.int .i64 r419.1.n), s422.v, s423.v]) rfl hM (.tail _ (.tail _ (.tail _ (.tail _ (.tail _ (.tail _ (.tail _ (.tail _ (.tail _ (.tail _ (.tail _ (.tail _ (.tail _ (.tail _ (.tail _ (.tail _ (.tail _ (.head _)))))))))))))))))) rfl) ?_
                        refine wv rfl (r_move rfl) ?_
                        obtain ⟨r641, h642, hx⟩ := bind_some' hx
                        refine w_call rfl rfl (hM.callV fun X S oL hS hR hO => ct_laws_heldStory _ X S (⟨r419.1.n, r560.2.undo, r560.2.redo⟩ : DStory) s422 s423 (1 : Int) hS (seeA hO (.tail _ (.tail _ (.tail _ (.tail _ (.tail _ (.tail _ (.tail _ (.head _))))))))) (seeA hO (.tail _ (.tail _ (.tail _ (.tail _ (.tail _ (.tail _ (.tail _ (.tail _ (.head _)))))))))) oL h642) ?_
                        rintro _ w643 ⟨rfl, hR644⟩
                        have hM := hM.call hR644
                        refine wv rfl (r_assign rfl) ?_
                        refine wl_nil ?_
                        refine sq_n ?_
                        refine wc_seq ?_
                        refine wc_seq ?_
                        refine wc_region ?_
                        refine wv rfl (r_move rfl) ?_
                        refine wv rfl (r_lss rfl rfl) ?_
                        refine wl_nil ?_
                        refine sq_n ?_
                        refine wc_cond rfl (fun hc648 => ?_) (fun hc648 => ?_)
                        · replace hx := xif_t hc648 hx
                          refine wc_seq ?_
                          refine wc_region ?_
                          refine wv rfl (r_assign rfl) ?_
                          refine wl_nil ?_
                          refine sq_n ?_
                          refine wc_ret ?_
                          refine sq_ret ?_
                          obtain rfl := Option.some.inj hx
                          refine fin_ret [(.bool false)] ⟨rfl, trivial⟩ ?_
                          replace hM : St ⟨w, X, S⟩ [] [rV s_aT.v (cSl 1 fI aT), rV s_aO.v (cSl 3 fDPart aO), rV s_aP_2.v (cSl 1 fLDPart aP.redo), rV s_aP_1.v (cSl 1 fLDPart aP.undo)] _ := hM.tk 0
                          have hM := hM.fewer rsN
                          exact ⟨(), rfl, hM.gives⟩
                        · replace hx := xif_f hc648 hx
                          refine wc_skip ?_
                          refine sq_n ?_
                          refine wc_seq ?_
                          refine wc_seq ?_
                          refine wc_region ?_
                          refine wv rfl (r_move rfl) ?_
                          refine wv rfl (r_move rfl) ?_
                          refine wv rfl (r_neq rfl rfl) ?_
                          refine wl_nil ?_
                          refine sq_n ?_
                          refine wc_cond rfl (fun hc653 => ?_) (fun hc653 => ?_)
                          · replace hx := xif_t hc653 hx
                            refine wc_seq ?_
                            refine wc_region ?_
                            refine wv rfl (r_assign rfl) ?_
                            refine wl_nil ?_
                            refine sq_n ?_
                            refine wc_ret ?_
                            refine sq_ret ?_
                            obtain rfl := Option.some.inj hx
                            refine fin_ret [(.bool false)] ⟨rfl, trivial⟩ ?_
                            replace hM : St ⟨w, X, S⟩ [] [rV s_aT.v (cSl 1 fI aT), rV s_aO.v (cSl 3 fDPart aO), rV s_aP_2.v (cSl 1 fLDPart aP.redo), rV s_aP_1.v (cSl 1 fLDPart aP.undo)] _ := hM.tk 0
                            have hM := hM.fewer rsN
                            exact ⟨(), rfl, hM.gives⟩
                          · replace hx := xif_f hc653 hx
                            refine wc_skip ?_
                            refine sq_n ?_
                            refine wc_seq ?_
                            refine wc_region ?_
                            refine wv rfl (r_assign rfl) ?_
                            refine wl_nil ?_
                            refine sq_n ?_
                            refine wc_ret ?_
                            obtain rfl := Option.some.inj hx
                            refine fin_ret [(.bool true)] ⟨rfl, trivial⟩ ?_
                            replace hM : St ⟨w, X, S⟩ [] [rV s_aT.v (cSl 1 fI aT), rV s_aO.v (cSl 3 fDPart aO), rV s_aP_2.v (cSl 1 fLDPart aP.redo), rV s_aP_1.v (cSl 1 fLDPart aP.undo)] _ := hM.tk 0
                            have hM := hM.fewer rsN
                            exact ⟨(), rfl, hM.gives⟩

noncomputable def x_laws_FnExactPastUndo (aP : DStory) (aT : List Int) : Option Bool :=
  bif decide ((1048576 : Int) < (aT.length : Int)) then (some true) else (Option.bind (x_laws_szStory aP 1048576) fun r13 => bif decide (r13 < 0) then (some true) else (Option.bind (x_laws_toStory aP) fun r22 => Option.bind (x_laws_toIntS aT) fun r30 => Option.bind (x_spec_PastUndo r22 r30) fun r35 => Option.bind (x_laws_toStory aP) fun r57 => Option.bind (x_laws_toIntS aT) fun r71 => Option.bind (x_impl_PastUndo r57 r71) fun r79 => Option.bind (x_laws_eqStory r79.1 r35.1) fun r102 => Option.bind (bif !r102 then (some true) else (Option.bind (x_laws_eqPartS r79.2.1 r35.2.1) fun r119 => some (!r119))) fun c108 => Option.bind (bif c108 then (some true) else (some (!(r79.2.2 == r35.2.2)))) fun c125 => bif c125 then (some false) else (Option.bind (x_laws_toStory aP) fun r136 => Option.bind (x_laws_eqStory r57 r136) fun r146 => bif !r146 then (some false) else (Option.bind (x_laws_toIntS aT) fun r155 => Option.bind (x_laws_eqIntS r71 r155) fun r160 => bif !r160 then (some false) else (Option.bind (x_laws_markStory r57 1) fun r169 => Option.bind (x_laws_markIntS r71 r169.1) fun r175 => Option.bind (bif decide (r175.1 < 0) then (some true) else (Option.bind (x_laws_eqStory r79.1 r35.1) fun r193 => some (!r193))) fun c182 => Option.bind (bif c182 then (some true) else (Option.bind (x_laws_eqPartS r79.2.1 r35.2.1) fun r210 => some (!r210))) fun c199 => Option.bind (bif c199 then (some true) else (some (!(r79.2.2 == r35.2.2)))) fun c216 => bif c216 then (some false) else (Option.bind (x_laws_markStory r79.1 1) fun r228 => Option.bind (x_laws_markPartS r79.2.1 r228.1) fun r234 => Option.bind (x_laws_heldStory (⟨r79.1.n, r228.2.undo, r228.2.redo⟩ : DStory) 1) fun r241 => bif decide (r241 < 0) then (some false) else (Option.bind (x_laws_heldPartS r234.2 r241) fun r251 => bif decide (r251 < 0) then (some false) else (bif !decide (r251 = r234.1) then (some false) else (Option.bind (x_laws_toStory aP) fun r264 => Option.bind (x_laws_toIntS aT) fun r272 => Option.bind (x_impl_PastUndo r264 r272) fun r277 => Option.bind (x_laws_eqStory r277.1 r35.1) fun r300 => Option.bind (bif !r300 then (some true) else (Option.bind (x_laws_eqPartS r277.2.1 r35.2.1) fun r317 => some (!r317))) fun c306 => Option.bind (bif c306 then (some true) else (some (!(r277.2.2 == r35.2.2)))) fun c323 => bif c323 then (some false) else (Option.bind (x_laws_heldStory (⟨r79.1.n, r228.2.undo, r228.2.redo⟩ : DStory) 1) fun r335 => bif decide (r335 < 0) then (some false) else (Option.bind (x_laws_heldPartS r234.2 r335) fun r345 => bif decide (r345 < 0) then (some false) else (bif !decide (r345 = r234.1) then (some false) else (some true)))))))))))))
theorem ct_laws_FnExactPastUndo (w : World) (X S : Bs) (aP : DStory) (s_aP_1 : Sv) (s_aP_2 : Sv) (aT : List Int) (s_aT : Sv) (hS : ∀ b, S b → b < w.heap.size ∧ ¬ X b) (a_aP_1 : (cSl 1 fLDPart aP.undo).rd S w s_aP_1.v) (a_aP_2 : (cSl 1 fLDPart aP.redo).rd S w s_aP_2.v) (a_aT_0 : (cSl 1 fI aT).rd S w s_aT.v) (oL : Sep [] X w) {r : Bool} (hx : x_laws_FnExactPastUndo aP aT = some r) :
    Ret Try.prog 12 [(.agg #[(.int .i64 aP.n), s_aP_1.v, s_aP_2.v]), s_aT.v] w (fun u w' => ∃ _ : Unit, u = (.bool r) ∧ Gives X S w [] [] w') := by
  unfold x_laws_FnExactPastUndo at hx
  refine enter Try.func12 rfl Try.ntmps12 (by kernel_rfl) rfl ?_
  have hM := St.enter oL hS
  have hM := hM.addE (r := rV s_aP_1.v (cSl 1 fLDPart aP.undo)) a_aP_1
  have hM := hM.addE (r := rV s_aP_2.v (cSl 1 fLDPart aP.redo)) a_aP_2
  have hM := hM.addE (r := rV s_aT.v (cSl 1 fI aT)) a_aT_0
  refine wc_seq ?_
  refine wc_region ?_
  refine w_ex rfl (x_box rfl hM ?_); intro b359 w358 hR360 hM
  replace hM : St ⟨w, X, S⟩ [oBox b359 #[(.int .i64 aP.n), s_aP_1.v, s_aP_2.v] 43] [rV s_aT.v (cSl 1 fI aT), rV s_aP_2.v (cSl 1 fLDPart aP.redo), rV s_aP_1.v (cSl 1 fLDPart aP.undo)] _ := hM
  refine wv rfl (r_assign rfl) ?_
  refine wl_nil ?_
  refine sq_n ?_
  refine wc_seq ?_
  refine wc_seq ?_
  refine wc_region ?_
  refine wv rfl (r_move rfl) ?_
  refine wv rfl (r_lenC Try.underlying24 rfl (hM.seeR (.head _))) ?_
  refine wv rfl (r_gtr rfl rfl) ?_
  refine wl_nil ?_
  refine sq_n ?_
  refine wc_cond rfl (fun hc366 => ?_) (fun hc366 => ?_)
  · replace hx := xif_t hc366 hx
    refine wc_seq ?_
    refine wc_region ?_
    refine wv rfl (r_assign rfl) ?_
    refine wl_nil ?_
    refine sq_n ?_
    refine wc_ret ?_
    refine sq_ret ?_
    obtain rfl := Option.some.inj hx
    refine fin_ret [(.bool true)] ⟨rfl, trivial⟩ ?_
    replace hM : St ⟨w, X, S⟩ [] [rV s_aT.v (cSl 1 fI aT), rV s_aP_2.v (cSl 1 fLDPart aP.redo), rV s_aP_1.v (cSl 1 fLDPart aP.undo)] _ := hM.tk 0
    have hM := hM.fewer rsN
    exact ⟨(), rfl, hM.gives⟩
  · replace hx := xif_f hc366 hx
    refine wc_skip ?_
    refine sq_n ?_
    refine wc_seq ?_
    refine wc_region ?_
    refine wv rfl (r_assign rfl) ?_
    refine wl_nil ?_
    refine sq_n ?_
    refine wc_seq ?_
    refine wc_region ?_
    refine wv rfl (r_ldBS Try.underlying43 sz43 rfl (us := [(.int .i64 aP.n), s_aP_1.v, s_aP_2.v]) rfl hM (.head _) rfl) ?_
    refine wv rfl (r_move rfl) ?_
    obtain ⟨r371, h372, hx⟩ := bind_some' hx
    refine w_call rfl rfl (hM.callV fun X S oL hS hR hO => ct_laws_szStory _ X S aP s_aP_1 s_aP_2 (1048576 : Int) hS (hR _ (.tail _ (.tail _ (.head _)))) (hR _ (.tail _ (.head _))) oL h372) ?_
    rintro _ w373 ⟨rfl, hR374⟩
    have hM := hM.call hR374
    refine wv rfl (r_assign rfl) ?_
    refine wl_nil ?_
    refine sq_n ?_
    refine wc_seq ?_
    refine wc_seq ?_
    refine wc_region ?_
    refine wv rfl (r_move rfl) ?_
    refine wv rfl (r_lss rfl rfl) ?_
    refine wl_nil ?_
    refine sq_n ?_
    refine wc_cond rfl (fun hc378 => ?_) (fun hc378 => ?_)
    · replace hx := xif_t hc378 hx
      refine wc_seq ?_
      refine wc_region ?_
      refine wv rfl (r_assign rfl) ?_
      refine wl_nil ?_
      refine sq_n ?_
      refine wc_ret ?_
      refine sq_ret ?_
      obtain rfl := Option.some.inj hx
      refine fin_ret [(.bool true)] ⟨rfl, trivial⟩ ?_
      replace hM : St ⟨w, X, S⟩ [] [rV s_aT.v (cSl 1 fI aT), rV s_aP_2.v (cSl 1 fLDPart aP.redo), rV s_aP_1.v (cSl 1 fLDPart aP.undo)] _ := hM.tk 0
      have hM := hM.fewer rsN
      exact ⟨(), rfl, hM.gives⟩
    · replace hx := xif_f hc378 hx
      refine wc_skip ?_
      refine sq_n ?_
      refine wc_seq ?_
      refine wc_region ?_
      refine wv rfl (r_ldBS Try.underlying43 sz43 rfl (us := [(.int .i64 aP.n), s_aP_1.v, s_aP_2.v]) rfl hM (.head _) rfl) ?_
      obtain ⟨r381, h382, hx⟩ := bind_some' hx
      refine w_call rfl rfl (hM.callO (l := []) fun X S oL hS hR hO => ct_laws_toStory _ X S aP s_aP_1 s_aP_2 hS (hR _ (.tail _ (.tail _ (.head _)))) (hR _ (.tail _ (.head _))) oL h382) ?_
      rintro _ w383 ⟨⟨s384, s385⟩, rfl, hM⟩
      replace hM : St ⟨w, X, S⟩ [oC (cSl 1 fLDPart r381.undo) s384.v, oC (cSl 1 fLDPart r381.redo) s385.v, oBox b359 #[(.int .i64 aP.n), s_aP_1.v, s_aP_2.v] 43] [rV s_aT.v (cSl 1 fI aT), rV s_aP_2.v (cSl 1 fLDPart aP.redo), rV s_aP_1.v (cSl 1 fLDPart aP.undo)] _ := hM
      refine wv rfl (r_move rfl) ?_
      obtain ⟨r389, h390, hx⟩ := bind_some' hx
      refine w_call rfl rfl (hM.callO (l := []) fun X S oL hS hR hO => ct_laws_toIntS _ X S aT s_aT hS (hR _ (.head _)) oL h390) ?_
      rintro _ w391 ⟨s392, rfl, hM⟩
      replace hM : St ⟨w, X, S⟩ [oC (cSl 1 fI r389) s392.v, oC (cSl 1 fLDPart r381.undo) s384.v, oC (cSl 1 fLDPart r381.redo) s385.v, oBox b359 #[(.int .i64 aP.n), s_aP_1.v, s_aP_2.v] 43] [rV s_aT.v (cSl 1 fI aT), rV s_aP_2.v (cSl 1 fLDPart aP.redo), rV s_aP_1.v (cSl 1 fLDPart aP.undo)] _ := hM
      obtain ⟨r394, h395, hx⟩ := bind_some' hx
      refine w_call rfl rfl (hM.callO (l := []) fun X S oL hS hR hO => ct_spec_PastUndo _ X S r381 s384 s385 r389 s392 hS (seeA hO (.tail _ (.head _))) (seeA hO (.tail _ (.tail _ (.head _)))) (seeA hO (.head _)) oL h395) ?_
      rintro _ w396 ⟨⟨s397, s398, s399⟩, rfl, hM⟩
      replace hM : St ⟨w, X, S⟩ [oC (cSl 1 fLDPart r394.1.undo) s397.v, oC (cSl 1 fLDPart r394.1.redo) s398.v, oC (cSl 3 fDPart r394.2.1) s399.v, oC (cSl 1 fI r389) s392.v, oC (cSl 1 fLDPart r381.undo) s384.v, oC (cSl 1 fLDPart r381.redo) s385.v, oBox b359 #[(.int .i64 aP.n), s_aP_1.v, s_aP_2.v] 43] [rV s_aT.v (cSl 1 fI aT), rV s_aP_2.v (cSl 1 fLDPart aP.redo), rV s_aP_1.v (cSl 1 fLDPart aP.undo)] _ := hM
      refine wv rfl (r_move rfl) ?_
      refine wv rfl (r_extract rfl rfl) ?_
      refine wv rfl (r_extract rfl rfl) ?_
      refine wv rfl (r_extract rfl rfl) ?_
      refine w_ex rfl (x_alloc sz48 hM ?_); intro b408 w407 hR409 hM
      replace hM : St ⟨w, X, S⟩ [oBox b408 #[(.int .i64 0), (.slice none 0 0), (.slice none 0 0)] 48, oC (cSl 1 fLDPart r394.1.undo) s397.v, oC (cSl 1 fLDPart r394.1.redo) s398.v, oC (cSl 3 fDPart r394.2.1) s399.v, oC (cSl 1 fI r389) s392.v, oC (cSl 1 fLDPart r381.undo) s384.v, oC (cSl 1 fLDPart r381.redo) s385.v, oBox b359 #[(.int .i64 aP.n), s_aP_1.v, s_aP_2.v] 43] [rV s_aT.v (cSl 1 fI aT), rV s_aP_2.v (cSl 1 fLDPart aP.redo), rV s_aP_1.v (cSl 1 fLDPart aP.undo)] _ := hM
      refine w_exu (x_stB #[(.int .i64 r394.1.n), s397.v, s398.v] sz48 rfl rfl rfl rfl rfl rfl hM ?_); intro w411 hM
      refine wv rfl (r_assign rfl) ?_
      refine wv rfl (r_assign rfl) ?_
      refine wl_nil ?_
      refine sq_n ?_
      refine wc_seq ?_
      refine wc_region ?_
      refine wv rfl (r_ldBS Try.underlying43 sz43 rfl (us := [(.int .i64 aP.n), s_aP_1.v, s_aP_2.v]) rfl hM (.tail _ (.tail _ (.tail _ (.tail _ (.tail _ (.tail _ (.tail _ (.head _)))))))) rfl) ?_
      obtain ⟨r416, h417, hx⟩ := bind_some' hx
      refine w_call rfl rfl (hM.callO (l := []) fun X S oL hS hR hO => ct_laws_toStory _ X S aP s_aP_1 s_aP_2 hS (hR _ (.tail _ (.tail _ (.head _)))) (hR _ (.tail _ (.head _))) oL h417) ?_
      rintro _ w418 ⟨⟨s419, s420⟩, rfl, hM⟩
      replace hM : St ⟨w, X, S⟩ [oC (cSl 1 fLDPart r416.undo) s419.v, oC (cSl 1 fLDPart r416.redo) s420.v, oBox b408 #[(.int .i64 r394.1.n), s397.v, s398.v] 48, oC (cSl 1 fLDPart r394.1.undo) s397.v, oC (cSl 1 fLDPart r394.1.redo) s398.v, oC (cSl 3 fDPart r394.2.1) s399.v, oC (cSl 1 fI r389) s392.v, oC (cSl 1 fLDPart r381.undo) s384.v, oC (cSl 1 fLDPart r381.redo) s385.v, oBox b359 #[(.int .i64 aP.n), s_aP_1.v, s_aP_2.v] 43] [rV s_aT.v (cSl 1 fI aT), rV s_aP_2.v (cSl 1 fLDPart aP.redo), rV s_aP_1.v (cSl 1 fLDPart aP.undo)] _ := hM
      refine w_ex rfl (x_alloc sz48 hM ?_); intro b424 w423 hR425 hM
      replace hM : St ⟨w, X, S⟩ [oBox b424 #[(.int .i64 0), (.slice none 0 0), (.slice none 0 0)] 48, oC (cSl 1 fLDPart r416.undo) s419.v, oC (cSl 1 fLDPart r416.redo) s420.v, oBox b408 #[(.int .i64 r394.1.n), s397.v, s398.v] 48, oC (cSl 1 fLDPart r394.1.undo) s397.v, oC (cSl 1 fLDPart r394.1.redo) s398.v, oC (cSl 3 fDPart r394.2.1) s399.v, oC (cSl 1 fI r389) s392.v, oC (cSl 1 fLDPart r381.undo) s384.v, oC (cSl 1 fLDPart r381.redo) s385.v, oBox b359 #[(.int .i64 aP.n), s_aP_1.v, s_aP_2.v] 43] [rV s_aT.v (cSl 1 fI aT), rV s_aP_2.v (cSl 1 fLDPart aP.redo), rV s_aP_1.v (cSl 1 fLDPart aP.undo)] _ := hM
      refine w_exu (x_stB #[(.int .i64 r416.n), s419.v, s420.v] sz48 rfl rfl rfl rfl rfl rfl hM ?_); intro w427 hM
      refine wl_nil ?_
      refine sq_n ?_
      refine wc_seq ?_
      refine wc_region ?_
      refine wv rfl (r_move rfl) ?_
      obtain ⟨r430, h431, hx⟩ := bind_some' hx
      refine w_call rfl rfl (hM.callO (l := []) fun X S oL hS hR hO => ct_laws_toIntS _ X S aT s_aT hS (hR _ (.head _)) oL h431) ?_
      rintro _ w432 ⟨s433, rfl, hM⟩
      replace hM : St ⟨w, X, S⟩ [oC (cSl 1 fI r430) s433.v, oBox b424 #[(.int .i64 r416.n), s419.v, s420.v] 48, oC (cSl 1 fLDPart r416.undo) s419.v, oC (cSl 1 fLDPart r416.redo) s420.v, oBox b408 #[(.int .i64 r394.1.n), s397.v, s398.v] 48, oC (cSl 1 fLDPart r394.1.undo) s397.v, oC (cSl 1 fLDPart r394.1.redo) s398.v, oC (cSl 3 fDPart r394.2.1) s399.v, oC (cSl 1 fI r389) s392.v, oC (cSl 1 fLDPart r381.undo) s384.v, oC (cSl 1 fLDPart r381.redo) s385.v, oBox b359 #[(.int .i64 aP.n), s_aP_1.v, s_aP_2.v] 43] [rV s_aT.v (cSl 1 fI aT), rV s_aP_2.v (cSl 1 fLDPart aP.redo), rV s_aP_1.v (cSl 1 fLDPart aP.undo)] _ := hM
      refine wv rfl (r_assign rfl) ?_
      refine wl_nil ?_
      refine sq_n ?_
      refine wc_seq ?_
      refine wc_region ?_
      refine wv rfl (r_ldBS Try.underlying48 sz48 rfl (us := [(.int .i64 r416.n), s419.v, s420.v]) rfl hM (.tail _ (.head _)) rfl) ?_
      refine wv rfl (r_move rfl) ?_
      obtain ⟨r438, h439, hx⟩ := bind_some' hx
      refine w_call rfl rfl (hM.callO (l := []) fun X S oL hS hR hO => ct_impl_PastUndo _ X S r416 s419 s420 r430 s433 hS (seeA hO (.tail _ (.tail _ (.head _)))) (seeA hO (.tail _ (.tail _ (.tail _ (.head _))))) (seeA hO (.head _)) oL h439) ?_
      rintro _ w440 ⟨⟨s441, s442, s443⟩, rfl, hM⟩
      replace hM : St ⟨w, X, S⟩ [oC (cSl 1 fLDPart r438.1.undo) s441.v, oC (cSl 1 fLDPart r438.1.redo) s442.v, oC (cSl 3 fDPart r438.2.1) s443.v, oC (cSl 1 fI r430) s433.v, oBox b424 #[(.int .i64 r416.n), s419.v, s420.v] 48, oC (cSl 1 fLDPart r416.undo) s419.v, oC (cSl 1 fLDPart r416.redo) s420.v, oBox b408 #[(.int .i64 r394.1.n), s397.v, s398.v] 48, oC (cSl 1 fLDPart r394.1.undo) s397.v, oC (cSl 1 fLDPart r394.1.redo) s398.v, oC (cSl 3 fDPart r394.2.1) s399.v, oC (cSl 1 fI r389) s392.v, oC (cSl 1 fLDPart r381.undo) s384.v, oC (cSl 1 fLDPart r381.redo) s385.v, oBox b359 #[(.int .i64 aP.n), s_aP_1.v, s_aP_2.v] 43] [rV s_aT.v (cSl 1 fI aT), rV s_aP_2.v (cSl 1 fLDPart aP.redo), rV s_aP_1.v (cSl 1 fLDPart aP.undo)] _ := hM
      refine wv rfl (r_move rfl) ?_
      refine wv rfl (r_extract rfl rfl) ?_
      refine wv rfl (r_extract rfl rfl) ?_
      refine wv rfl (r_extract rfl rfl) ?_
      refine w_ex rfl (x_alloc sz48 hM ?_); intro b452 w451 hR453 hM
      replace hM : St ⟨w, X, S⟩ [oBox b452 #[(.int .i64 0), (.slice none 0 0), (.slice none 0 0)] 48, oC (cSl 1 fLDPart r438.1.undo) s441.v, oC (cSl 1 fLDPart r438.1.redo) s442.v, oC (cSl 3 fDPart r438.2.1) s443.v, oC (cSl 1 fI r430) s433.v, oBox b424 #[(.int .i64 r416.n), s419.v, s420.v] 48, oC (cSl 1 fLDPart r416.undo) s419.v, oC (cSl 1 fLDPart r416.redo) s420.v, oBox b408 #[(.int .i64 r394.1.n), s397.v, s398.v] 48, oC (cSl 1 fLDPart r394.1.undo) s397.v, oC (cSl 1 fLDPart r394.1.redo) s398.v, oC (cSl 3 fDPart r394.2.1) s399.v, oC (cSl 1 fI r389) s392.v, oC (cSl 1 fLDPart r381.undo) s384.v, oC (cSl 1 fLDPart r381.redo) s385.v, oBox b359 #[(.int .i64 aP.n), s_aP_1.v, s_aP_2.v] 43] [rV s_aT.v (cSl 1 fI aT), rV s_aP_2.v (cSl 1 fLDPart aP.redo), rV s_aP_1.v (cSl 1 fLDPart aP.undo)] _ := hM
      refine w_exu (x_stB #[(.int .i64 r438.1.n), s441.v, s442.v] sz48 rfl rfl rfl rfl rfl rfl hM ?_); intro w455 hM
      refine wv rfl (r_assign rfl) ?_
      refine wv rfl (r_assign rfl) ?_
      refine wl_nil ?_
      refine sq_n ?_
      refine wc_seq ?_
      refine wc_seq ?_
      refine wc_region ?_
      refine wv rfl (r_ldBS Try.underlying48 sz48 rfl (us := [(.int .i64 r438.1.n), s441.v, s442.v]) rfl hM (.head _) rfl) ?_
      refine wv rfl (r_ldBS Try.underlying48 sz48 rfl (us := [(.int .i64 r394.1.n), s397.v, s398.v]) rfl hM (.tail _ (.tail _ (.tail _ (.tail _ (.tail _ (.tail _ (.tail _ (.tail _ (.head _))))))))) rfl) ?_
      obtain ⟨r461, h462, hx⟩ := bind_some' hx
      refine w_call rfl rfl (hM.callV fun X S oL hS hR hO => ct_laws_eqStory _ X S r438.1 s441 s442 r394.1 s397 s398 hS (seeA hO (.tail _ (.head _))) (seeA hO (.tail _ (.tail _ (.head _)))) (seeA hO (.tail _ (.tail _ (.tail _ (.tail _ (.tail _ (.tail _ (.tail _ (.tail _ (.tail _ (.head _))))))))))) (seeA hO (.tail _ (.tail _ (.tail _ (.tail _ (.tail _ (.tail _ (.tail _ (.tail _ (.tail _ (.tail _ (.head _)))))))))))) oL h462) ?_
      rintro _ w463 ⟨rfl, hR464⟩
      have hM := hM.call hR464
      refine wv rfl (r_not rfl) ?_
      refine wv rfl (r_move rfl) ?_
      obtain ⟨c467, hx, hx476⟩ := bind_some' hx
      refine wl_mid 5 (fun _ : Unit => [(57, (.bool c467)), (1, s_aT.v), (2, (.pointer (some ⟨b359, 0, none⟩))), (6, (.pointer (some ⟨b408, 0, none⟩))), (7, s399.v), (8, (.bool r394.2.2)), (9, (.pointer (some ⟨b424, 0, none⟩))), (10, s433.v), (11, (.pointer (some ⟨b452, 0, none⟩))), (12, s443.v), (13, (.bool r438.2.2))]) (fun _ w' => St ⟨w, X, S⟩ [oBox b452 #[(.int .i64 r438.1.n), s441.v, s442.v] 48, oC (cSl 1 fLDPart r438.1.undo) s441.v, oC (cSl 1 fLDPart r438.1.redo) s442.v, oC (cSl 3 fDPart r438.2.1) s443.v, oC (cSl 1 fI r430) s433.v, oBox b424 #[(.int .i64 r416.n), s419.v, s420.v] 48, oC (cSl 1 fLDPart r416.undo) s419.v, oC (cSl 1 fLDPart r416.redo) s420.v, oBox b408 #[(.int .i64 r394.1.n), s397.v, s398.v] 48, oC (cSl 1 fLDPart r394.1.undo) s397.v, oC (cSl 1 fLDPart r394.1.redo) s398.v, oC (cSl 3 fDPart r394.2.1) s399.v, oC (cSl 1 fI r389) s392.v, oC (cSl 1 fLDPart r381.undo) s384.v, oC (cSl 1 fLDPart r381.redo) s385.v, oBox b359 #[(.int .i64 aP.n), s_aP_1.v, s_aP_2.v] 43] [rV s_aT.v (cSl 1 fI aT), rV s_aP_2.v (cSl 1 fLDPart aP.redo), rV s_aP_1.v (cSl 1 fLDPart aP.undo)] w') ?_ ?_
      · rcases Bool.eq_false_or_eq_true (!r461) with hg468 | hg468
        · replace hx := xif_t hg468 hx
          refine gs rfl (isB_no hg468) rfl ?_
          refine gs rfl (isB_no hg468) rfl ?_
          refine gs rfl (isB_no hg468) rfl ?_
          refine gs rfl (isB_no hg468) rfl ?_
          refine wv rfl (p_t rfl hg468 rfl) ?_
          obtain rfl := Option.some.inj hx
          exact mid_nil () ⟨rfl, rfl, rfl, rfl, rfl, rfl, rfl, rfl, rfl, rfl, rfl, trivial⟩ hM
        · replace hx := xif_f hg468 hx
          refine gv rfl hg468 rfl (r_move rfl) ?_
          refine gv rfl hg468 rfl (r_move rfl) ?_
          obtain ⟨r479, h480, hx⟩ := bind_some' hx
          refine gc rfl hg468 rfl rfl (hM.callV fun X S oL hS hR hO => ct_laws_eqPartS _ X S r438.2.1 s443 r394.2.1 s399 hS (seeA hO (.tail _ (.tail _ (.tail _ (.head _))))) (seeA hO (.tail _ (.tail _ (.tail _ (.tail _ (.tail _ (.tail _ (.tail _ (.tail _ (.tail _ (.tail _ (.tail _ (.head _))))))))))))) oL h480) ?_
          rintro _ w481 ⟨rfl, hR482⟩
          have hM := hM.call hR482
          refine gv rfl hg468 rfl (r_not rfl) ?_
          refine wv rfl (p_f rfl hg468 rfl) ?_
          obtain rfl := Option.some.inj hx
          exact mid_nil () ⟨rfl, rfl, rfl, rfl, rfl, rfl, rfl, rfl, rfl, rfl, rfl, trivial⟩ hM
      rintro _ w484 hM
      replace hx := hx476
      refine wv rfl (r_move rfl) ?_
      obtain ⟨c486, hx, hx491⟩ := bind_some' hx
      refine wl_mid 4 (fun _ : Unit => [(62, (.bool c486)), (1, s_aT.v), (2, (.pointer (some ⟨b359, 0, none⟩))), (6, (.pointer (some ⟨b408, 0, none⟩))), (7, s399.v), (8, (.bool r394.2.2)), (9, (.pointer (some ⟨b424, 0, none⟩))), (10, s433.v), (11, (.pointer (some ⟨b452, 0, none⟩))), (12, s443.v), (13, (.bool r438.2.2))]) (fun _ w' => St ⟨w, X, S⟩ [oBox b452 #[(.int .i64 r438.1.n), s441.v, s442.v] 48, oC (cSl 1 fLDPart r438.1.undo) s441.v, oC (cSl 1 fLDPart r438.1.redo) s442.v, oC (cSl 3 fDPart r438.2.1) s443.v, oC (cSl 1 fI r430) s433.v, oBox b424 #[(.int .i64 r416.n), s419.v, s420.v] 48, oC (cSl 1 fLDPart r416.undo) s419.v, oC (cSl 1 fLDPart r416.redo) s420.v, oBox b408 #[(.int .i64 r394.1.n), s397.v, s398.v] 48, oC (cSl 1 fLDPart r394.1.undo) s397.v, oC (cSl 1 fLDPart r394.1.redo) s398.v, oC (cSl 3 fDPart r394.2.1) s399.v, oC (cSl 1 fI r389) s392.v, oC (cSl 1 fLDPart r381.undo) s384.v, oC (cSl 1 fLDPart r381.redo) s385.v, oBox b359 #[(.int .i64 aP.n), s_aP_1.v, s_aP_2.v] 43] [rV s_aT.v (cSl 1 fI aT), rV s_aP_2.v (cSl 1 fLDPart aP.redo), rV s_aP_1.v (cSl 1 fLDPart aP.undo)] w') ?_ ?_
      · rcases Bool.eq_false_or_eq_true c467 with hg487 | hg487
        · replace hx := xif_t hg487 hx
          refine gs rfl (isB_no hg487) rfl ?_
          refine gs rfl (isB_no hg487) rfl ?_
          refine gs rfl (isB_no hg487) rfl ?_
          refine wv rfl (p_t rfl hg487 rfl) ?_
          obtain rfl := Option.some.inj hx
          exact mid_nil () ⟨rfl, rfl, rfl, rfl, rfl, rfl, rfl, rfl, rfl, rfl, rfl, trivial⟩ hM
        · replace hx := xif_f hg487 hx
          refine gv rfl hg487 rfl (r_move rfl) ?_
          refine gv rfl hg487 rfl (r_move rfl) ?_
          refine gv rfl hg487 rfl (r_neqb Try.underlying4 rfl rfl) ?_
          refine wv rfl (p_f rfl hg487 rfl) ?_
          obtain rfl := Option.some.inj hx
          exact mid_nil () ⟨rfl, rfl, rfl, rfl, rfl, rfl, rfl, rfl, rfl, rfl, rfl, trivial⟩ hM
      rintro _ w495 hM
      replace hx := hx491
      refine wl_nil ?_
      refine sq_n ?_
      refine wc_cond rfl (fun hc496 => ?_) (fun hc496 => ?_)
      · replace hx := xif_t hc496 hx
        refine wc_seq ?_
        refine wc_region ?_
        refine wv rfl (r_assign rfl) ?_
        refine wl_nil ?_
        refine sq_n ?_
        refine wc_ret ?_
        refine sq_ret ?_
        obtain rfl := Option.some.inj hx
        refine fin_ret [(.bool false)] ⟨rfl, trivial⟩ ?_
        replace hM : St ⟨w, X, S⟩ [] [rV s_aT.v (cSl 1 fI aT), rV s_aP_2.v (cSl 1 fLDPart aP.redo), rV s_aP_1.v (cSl 1 fLDPart aP.undo)] _ := hM.tk 0
        have hM := hM.fewer rsN
        exact ⟨(), rfl, hM.gives⟩
      · replace hx := xif_f hc496 hx
        refine wc_skip ?_
        refine sq_n ?_
        refine wc_seq ?_
        refine wc_seq ?_
        refine wc_draw [(0, 0), (1, 0), (2, 1), (3, 0), (4, 0)] Try_mixed (by kernel_rfl) rfl (by kernel_rfl) rfl ?_
        refine ov rfl (fun w' h' => r_ldBS Try.underlying48 sz48 rfl (us := [(.int .i64 r416.n), s419.v, s420.v]) rfl (hM.call h') (.tail _ (.tail _ (.tail _ (.tail _ (.tail _ (.head _)))))) rfl) ?_
        refine ov rfl (fun w' h' => r_ldBS Try.underlying43 sz43 rfl (us := [(.int .i64 aP.n), s_aP_1.v, s_aP_2.v]) rfl (hM.call h') (.tail _ (.tail _ (.tail _ (.tail _ (.tail _ (.tail _ (.tail _ (.tail _ (.tail _ (.tail _ (.tail _ (.tail _ (.tail _ (.tail _ (.tail _ (.head _)))))))))))))))) rfl) ?_
        obtain ⟨r500, h501, hx⟩ := bind_some' hx
        refine o_forced rfl rfl (fun w' h' => (hM.call h').callF fun X S oL hS hR hO => ct_laws_toStory _ X S aP s_aP_1 s_aP_2 hS (hR _ (.tail _ (.tail _ (.head _)))) (hR _ (.tail _ (.head _))) oL h501) ?_
        rintro w505 h506 _ w502 ⟨hR507, ⟨s503, s504⟩, rfl, hM⟩
        refine ⟨hR507, ?_⟩
        replace hM : St ⟨w, X, S⟩ [oC (cSl 1 fLDPart r500.undo) s503.v, oC (cSl 1 fLDPart r500.redo) s504.v, oBox b452 #[(.int .i64 r438.1.n), s441.v, s442.v] 48, oC (cSl 1 fLDPart r438.1.undo) s441.v, oC (cSl 1 fLDPart r438.1.redo) s442.v, oC (cSl 3 fDPart r438.2.1) s443.v, oC (cSl 1 fI r430) s433.v, oBox b424 #[(.int .i64 r416.n), s419.v, s420.v] 48, oC (cSl 1 fLDPart r416.undo) s419.v, oC (cSl 1 fLDPart r416.redo) s420.v, oBox b408 #[(.int .i64 r394.1.n), s397.v, s398.v] 48, oC (cSl 1 fLDPart r394.1.undo) s397.v, oC (cSl 1 fLDPart r394.1.redo) s398.v, oC (cSl 3 fDPart r394.2.1) s399.v, oC (cSl 1 fI r389) s392.v, oC (cSl 1 fLDPart r381.undo) s384.v, oC (cSl 1 fLDPart r381.redo) s385.v, oBox b359 #[(.int .i64 aP.n), s_aP_1.v, s_aP_2.v] 43] [rV s_aT.v (cSl 1 fI aT), rV s_aP_2.v (cSl 1 fLDPart aP.redo), rV s_aP_1.v (cSl 1 fLDPart aP.undo)] _ := hM
        obtain ⟨r510, h511, hx⟩ := bind_some' hx
        refine oc rfl rfl (fun w' h' => (hM.call h').callV fun X S oL hS hR hO => ct_laws_eqStory _ X S r416 s419 s420 r500 s503 s504 hS (seeA hO (.tail _ (.tail _ (.tail _ (.tail _ (.tail _ (.tail _ (.tail _ (.tail _ (.head _)))))))))) (seeA hO (.tail _ (.tail _ (.tail _ (.tail _ (.tail _ (.tail _ (.tail _ (.tail _ (.tail _ (.head _))))))))))) (seeA hO (.head _)) (seeA hO (.tail _ (.head _))) oL h511) ?_
        refine ov rfl (fun w' h' => r_not rfl) ?_
        refine o_nil fun w514 hw515 => ?_
        have hM := hM.call hw515
        refine sq_n ?_
        refine wc_cond rfl (fun hc516 => ?_) (fun hc516 => ?_)
        · replace hx := xif_t hc516 hx
          refine wc_seq ?_
          refine wc_region ?_
          refine wv rfl (r_assign rfl) ?_
          refine wl_nil ?_
          refine sq_n ?_
          refine wc_ret ?_
          refine sq_ret ?_
          obtain rfl := Option.some.inj hx
          refine fin_ret [(.bool false)] ⟨rfl, trivial⟩ ?_
          replace hM : St ⟨w, X, S⟩ [] [rV s_aT.v (cSl 1 fI aT), rV s_aP_2.v (cSl 1 fLDPart aP.redo), rV s_aP_1.v (cSl 1 fLDPart aP.undo)] _ := hM.tk 0
          have hM := hM.fewer rsN
          exact ⟨(), rfl, hM.gives⟩
        · replace hx := xif_f hc516 hx
          refine wc_skip ?_
          refine sq_n ?_
          refine wc_seq ?_
          refine wc_seq ?_
          refine wc_region ?_
          refine wv rfl (r_move rfl) ?_
          refine wv rfl (r_move rfl) ?_
          obtain ⟨r520, h521, hx⟩ := bind_some' hx
          refine w_call rfl rfl (hM.callO (l := []) fun X S oL hS hR hO => ct_laws_toIntS _ X S aT s_aT hS (hR _ (.head _)) oL h521) ?_
          rintro _ w522 ⟨s523, rfl, hM⟩
          replace hM : St ⟨w, X, S⟩ [oC (cSl 1 fI r520) s523.v, oC (cSl 1 fLDPart r500.undo) s503.v, oC (cSl 1 fLDPart r500.redo) s504.v, oBox b452 #[(.int .i64 r438.1.n), s441.v, s442.v] 48, oC (cSl 1 fLDPart r438.1.undo) s441.v, oC (cSl 1 fLDPart r438.1.redo) s442.v, oC (cSl 3 fDPart r438.2.1) s443.v, oC (cSl 1 fI r430) s433.v, oBox b424 #[(.int .i64 r416.n), s419.v, s420.v] 48, oC (cSl 1 fLDPart r416.undo) s419.v, oC (cSl 1 fLDPart r416.redo) s420.v, oBox b408 #[(.int .i64 r394.1.n), s397.v, s398.v] 48, oC (cSl 1 fLDPart r394.1.undo) s397.v, oC (cSl 1 fLDPart r394.1.redo) s398.v, oC (cSl 3 fDPart r394.2.1) s399.v, oC (cSl 1 fI r389) s392.v, oC (cSl 1 fLDPart r381.undo) s384.v, oC (cSl 1 fLDPart r381.redo) s385.v, oBox b359 #[(.int .i64 aP.n), s_aP_1.v, s_aP_2.v] 43] [rV s_aT.v (cSl 1 fI aT), rV s_aP_2.v (cSl 1 fLDPart aP.redo), rV s_aP_1.v (cSl 1 fLDPart aP.undo)] _ := hM
          obtain ⟨r525, h526, hx⟩ := bind_some' hx
          refine w_call rfl rfl (hM.callV fun X S oL hS hR hO => ct_laws_eqIntS _ X S r430 s433 r520 s523 hS (seeA hO (.tail _ (.tail _ (.tail _ (.tail _ (.tail _ (.tail _ (.tail _ (.head _))))))))) (seeA hO (.head _)) oL h526) ?_
          rintro _ w527 ⟨rfl, hR528⟩
          have hM := hM.call hR528
          refine wv rfl (r_not rfl) ?_
          refine wl_nil ?_
          refine sq_n ?_
          refine wc_cond rfl (fun hc530 => ?_) (fun hc530 => ?_)
          · replace hx := xif_t hc530 hx
            refine wc_seq ?_
            refine wc_region ?_
            refine wv rfl (r_assign rfl) ?_
            refine wl_nil ?_
            refine sq_n ?_
            refine wc_ret ?_
            refine sq_ret ?_
            obtain rfl := Option.some.inj hx
            refine fin_ret [(.bool false)] ⟨rfl, trivial⟩ ?_
            replace hM : St ⟨w, X, S⟩ [] [rV s_aT.v (cSl 1 fI aT), rV s_aP_2.v (cSl 1 fLDPart aP.redo), rV s_aP_1.v (cSl 1 fLDPart aP.undo)] _ := hM.tk 0
            have hM := hM.fewer rsN
            exact ⟨(), rfl, hM.gives⟩
          · replace hx := xif_f hc530 hx
            refine wc_skip ?_
            refine sq_n ?_
            refine wc_seq ?_
            refine wc_region ?_
            refine wv rfl (r_assign rfl) ?_
            refine wl_nil ?_
            refine sq_n ?_
            refine wc_seq ?_
            refine wc_region ?_
            refine wv rfl (r_ldBS Try.underlying48 sz48 rfl (us := [(.int .i64 r416.n), s419.v, s420.v]) rfl hM (.tail _ (.tail _ (.tail _ (.tail _ (.tail _ (.tail _ (.tail _ (.tail _ (.head _))))))))) rfl) ?_
            refine wv rfl (r_move rfl) ?_
            replace hM : St ⟨w, X, S⟩ [oC (cSl 1 fLDPart r416.undo) s419.v, oC (cSl 1 fLDPart r416.redo) s420.v, oC (cSl 1 fI r520) s523.v, oC (cSl 1 fLDPart r500.undo) s503.v, oC (cSl 1 fLDPart r500.redo) s504.v, oBox b452 #[(.int .i64 r438.1.n), s441.v, s442.v] 48, oC (cSl 1 fLDPart r438.1.undo) s441.v, oC (cSl 1 fLDPart r438.1.redo) s442.v, oC (cSl 3 fDPart r438.2.1) s443.v, oC (cSl 1 fI r430) s433.v, oBox b424 #[(.int .i64 r416.n), s419.v, s420.v] 48, oBox b408 #[(.int .i64 r394.1.n), s397.v, s398.v] 48, oC (cSl 1 fLDPart r394.1.undo) s397.v, oC (cSl 1 fLDPart r394.1.redo) s398.v, oC (cSl 3 fDPart r394.2.1) s399.v, oC (cSl 1 fI r389) s392.v, oC (cSl 1 fLDPart r381.undo) s384.v, oC (cSl 1 fLDPart r381.redo) s385.v, oBox b359 #[(.int .i64 aP.n), s_aP_1.v, s_aP_2.v] 43] [rV s_aT.v (cSl 1 fI aT), rV s_aP_2.v (cSl 1 fLDPart aP.redo), rV s_aP_1.v (cSl 1 fLDPart aP.undo)] _ := hM.pl [10, 10]
            obtain ⟨r535, h536, hx⟩ := bind_some' hx
            refine w_call rfl rfl (hM.callO (l := [oC (cSl 1 fLDPart r416.undo) s419.v, oC (cSl 1 fLDPart r416.redo) s420.v]) fun X S oL hS hR hO => ct_laws_markStory _ X S r416 s419 s420 (1 : Int) hS  oL h536) ?_
            rintro _ w537 ⟨_, rfl, hM⟩
            replace hM : St ⟨w, X, S⟩ [oC (cSl 1 fLDPart r535.2.undo) s419.v, oC (cSl 1 fLDPart r535.2.redo) s420.v, oC (cSl 1 fI r520) s523.v, oC (cSl 1 fLDPart r500.undo) s503.v, oC (cSl 1 fLDPart r500.redo) s504.v, oBox b452 #[(.int .i64 r438.1.n), s441.v, s442.v] 48, oC (cSl 1 fLDPart r438.1.undo) s441.v, oC (cSl 1 fLDPart r438.1.redo) s442.v, oC (cSl 3 fDPart r438.2.1) s443.v, oC (cSl 1 fI r430) s433.v, oBox b424 #[(.int .i64 r416.n), s419.v, s420.v] 48, oBox b408 #[(.int .i64 r394.1.n), s397.v, s398.v] 48, oC (cSl 1 fLDPart r394.1.undo) s397.v, oC (cSl 1 fLDPart r394.1.redo) s398.v, oC (cSl 3 fDPart r394.2.1) s399.v, oC (cSl 1 fI r389) s392.v, oC (cSl 1 fLDPart r381.undo) s384.v, oC (cSl 1 fLDPart r381.redo) s385.v, oBox b359 #[(.int .i64 aP.n), s_aP_1.v, s_aP_2.v] 43] [rV s_aT.v (cSl 1 fI aT), rV s_aP_2.v (cSl 1 fLDPart aP.redo), rV s_aP_1.v (cSl 1 fLDPart aP.undo)] _ := hM
            refine wv rfl (r_assign rfl) ?_
            refine wl_nil ?_
            refine sq_n ?_
            refine wc_seq ?_
            refine wc_region ?_
            refine wv rfl (r_move rfl) ?_
            refine wv rfl (r_move rfl) ?_
            replace hM : St ⟨w, X, S⟩ [oC (cSl 1 fI r430) s433.v, oC (cSl 1 fLDPart r535.2.undo) s419.v, oC (cSl 1 fLDPart r535.2.redo) s420.v, oC (cSl 1 fI r520) s523.v, oC (cSl 1 fLDPart r500.undo) s503.v, oC (cSl 1 fLDPart r500.redo) s504.v, oBox b452 #[(.int .i64 r438.1.n), s441.v, s442.v] 48, oC (cSl 1 fLDPart r438.1.undo) s441.v, oC (cSl 1 fLDPart r438.1.redo) s442.v, oC (cSl 3 fDPart r438.2.1) s443.v, oBox b424 #[(.int .i64 r416.n), s419.v, s420.v] 48, oBox b408 #[(.int .i64 r394.1.n), s397.v, s398.v] 48, oC (cSl 1 fLDPart r394.1.undo) s397.v, oC (cSl 1 fLDPart r394.1.redo) s398.v, oC (cSl 3 fDPart r394.2.1) s399.v, oC (cSl 1 fI r389) s392.v, oC (cSl 1 fLDPart r381.undo) s384.v, oC (cSl 1 fLDPart r381.redo) s385.v, oBox b359 #[(.int .i64 aP.n), s_aP_1.v, s_aP_2.v] 43] [rV s_aT.v (cSl 1 fI aT), rV s_aP_2.v (cSl 1 fLDPart aP.redo), rV s_aP_1.v (cSl 1 fLDPart aP.undo)] _ := hM.pl [9]
            obtain ⟨r541, h542, hx⟩ := bind_some' hx
            refine w_call rfl rfl (hM.callO (l := [oC (cSl 1 fI r430) s433.v]) fun X S oL hS hR hO => ct_laws_markIntS _ X S r430 s433 r535.1 hS  oL h542) ?_
            rintro _ w543 ⟨_, rfl, hM⟩
            replace hM : St ⟨w, X, S⟩ [oC (cSl 1 fI r541.2) s433.v, oC (cSl 1 fLDPart r535.2.undo) s419.v, oC (cSl 1 fLDPart r535.2.redo) s420.v, oC (cSl 1 fI r520) s523.v, oC (cSl 1 fLDPart r500.undo) s503.v, oC (cSl 1 fLDPart r500.redo) s504.v, oBox b452 #[(.int .i64 r438.1.n), s441.v, s442.v] 48, oC (cSl 1 fLDPart r438.1.undo) s441.v, oC (cSl 1 fLDPart r438.1.redo) s442.v, oC (cSl 3 fDPart r438.2.1) s443.v, oBox b424 #[(.int .i64 r416.n), s419.v, s420.v] 48, oBox b408 #[(.int .i64 r394.1.n), s397.v, s398.v] 48, oC (cSl 1 fLDPart r394.1.undo) s397.v, oC (cSl 1 fLDPart r394.1.redo) s398.v, oC (cSl 3 fDPart r394.2.1) s399.v, oC (cSl 1 fI r389) s392.v, oC (cSl 1 fLDPart r381.undo) s384.v, oC (cSl 1 fLDPart r381.redo) s385.v, oBox b359 #[(.int .i64 aP.n), s_aP_1.v, s_aP_2.v] 43] [rV s_aT.v (cSl 1 fI aT), rV s_aP_2.v (cSl 1 fLDPart aP.redo), rV s_aP_1.v (cSl 1 fLDPart aP.undo)] _ := hM
            refine wv rfl (r_assign rfl) ?_
            refine wl_nil ?_
            refine sq_n ?_
            refine wc_seq ?_
            refine wc_seq ?_
            refine wc_region ?_
            refine wv rfl (r_move rfl) ?_
            refine wv rfl (r_lss rfl rfl) ?_
            refine wv rfl (r_move rfl) ?_
            obtain ⟨c548, hx, hx557⟩ := bind_some' hx
            refine wl_mid 5 (fun _ : Unit => [(86, (.bool c548)), (1, s_aT.v), (2, (.pointer (some ⟨b359, 0, none⟩))), (6, (.pointer (some ⟨b408, 0, none⟩))), (7, s399.v), (8, (.bool r394.2.2)), (11, (.pointer (some ⟨b452, 0, none⟩))), (12, s443.v), (13, (.bool r438.2.2))]) (fun _ w' => St ⟨w, X, S⟩ [oC (cSl 1 fI r541.2) s433.v, oC (cSl 1 fLDPart r535.2.undo) s419.v, oC (cSl 1 fLDPart r535.2.redo) s420.v, oC (cSl 1 fI r520) s523.v, oC (cSl 1 fLDPart r500.undo) s503.v, oC (cSl 1 fLDPart r500.redo) s504.v, oBox b452 #[(.int .i64 r438.1.n), s441.v, s442.v] 48, oC (cSl 1 fLDPart r438.1.undo) s441.v, oC (cSl 1 fLDPart r438.1.redo) s442.v, oC (cSl 3 fDPart r438.2.1) s443.v, oBox b424 #[(.int .i64 r416.n), s419.v, s420.v] 48, oBox b408 #[(.int .i64 r394.1.n), s397.v, s398.v] 48, oC (cSl 1 fLDPart r394.1.undo) s397.v, oC (cSl 1 fLDPart r394.1.redo) s398.v, oC (cSl 3 fDPart r394.2.1) s399.v, oC (cSl 1 fI r389) s392.v, oC (cSl 1 fLDPart r381.undo) s384.v, oC (cSl 1 fLDPart r381.redo) s385.v, oBox b359 #[(.int .i64 aP.n), s_aP_1.v, s_aP_2.v] 43] [rV s_aT.v (cSl 1 fI aT), rV s_aP_2.v (cSl 1 fLDPart aP.redo), rV s_aP_1.v (cSl 1 fLDPart aP.undo)] w') ?_ ?_
            · rcases Bool.eq_false_or_eq_true (decide (r541.1 < 0)) with hg549 | hg549
              · replace hx := xif_t hg549 hx
                refine gs rfl (isB_no hg549) rfl ?_
                refine gs rfl (isB_no hg549) rfl ?_
                refine gs rfl (isB_no hg549) rfl ?_
                refine gs rfl (isB_no hg549) rfl ?_
                refine wv rfl (p_t rfl hg549 rfl) ?_
                obtain rfl := Option.some.inj hx
                exact mid_nil () ⟨rfl, rfl, rfl, rfl, rfl, rfl, rfl, rfl, rfl, trivial⟩ hM
              · replace hx := xif_f hg549 hx
                refine gv rfl hg549 rfl (r_ldBS Try.underlying48 sz48 rfl (us := [(.int .i64 r438.1.n), s441.v, s442.v]) rfl hM (.tail _ (.tail _ (.tail _ (.tail _ (.tail _ (.tail _ (.head _))))))) rfl) ?_
                refine gv rfl hg549 rfl (r_ldBS Try.underlying48 sz48 rfl (us := [(.int .i64 r394.1.n), s397.v, s398.v]) rfl hM (.tail _ (.tail _ (.tail _ (.tail _ (.tail _ (.tail _ (.tail _ (.tail _ (.tail _ (.tail _ (.tail _ (.head _)))))))))))) rfl) ?_
                obtain ⟨r560, h561, hx⟩ := bind_some' hx
                refine gc rfl hg549 rfl rfl (hM.callV fun X S oL hS hR hO => ct_laws_eqStory _ X S r438.1 s441 s442 r394.1 s397 s398 hS (seeA hO (.tail _ (.tail _ (.tail _ (.tail _ (.tail _ (.tail _ (.tail _ (.head _))))))))) (seeA hO (.tail _ (.tail _ (.tail _ (.tail _ (.tail _ (.tail _ (.tail _ (.tail _ (.head _)))))))))) (seeA hO (.tail _ (.tail _ (.tail _ (.tail _ (.tail _ (.tail _ (.tail _ (.tail _ (.tail _ (.tail _ (.tail _ (.tail _ (.head _)))))))))))))) (seeA hO (.tail _ (.tail _ (.tail _ (.tail _ (.tail _ (.tail _ (.tail _ (.tail _ (.tail _ (.tail _ (.tail _ (.tail _ (.tail _ (.head _))))))))))))))) oL h561) ?_
                rintro _ w562 ⟨rfl, hR563⟩
                have hM := hM.call hR563
                refine gv rfl hg549 rfl (r_not rfl) ?_
                refine wv rfl (p_f rfl hg549 rfl) ?_
                obtain rfl := Option.some.inj hx
                exact mid_nil () ⟨rfl, rfl, rfl, rfl, rfl, rfl, rfl, rfl, rfl, trivial⟩ hM
            rintro _ w565 hM
            replace hx := hx557
            refine wv rfl (r_move rfl) ?_
            obtain ⟨c567, hx, hx576⟩ := bind_some' hx
            refine wl_mid 5 (fun _ : Unit => [(92, (.bool c567)), (1, s_aT.v), (2, (.pointer (some ⟨b359, 0, none⟩))), (6, (.pointer (some ⟨b408, 0, none⟩))), (7, s399.v), (8, (.bool r394.2.2)), (11, (.pointer (some ⟨b452, 0, none⟩))), (12, s443.v), (13, (.bool r438.2.2))]) (fun _ w' => St ⟨w, X, S⟩ [oC (cSl 1 fI r541.2) s433.v, oC (cSl 1 fLDPart r535.2.undo) s419.v, oC (cSl 1 fLDPart r535.2.redo) s420.v, oC (cSl 1 fI r520) s523.v, oC (cSl 1 fLDPart r500.undo) s503.v, oC (cSl 1 fLDPart r500.redo) s504.v, oBox b452 #[(.int .i64 r438.1.n), s441.v, s442.v] 48, oC (cSl 1 fLDPart r438.1.undo) s441.v, oC (cSl 1 fLDPart r438.1.redo) s442.v, oC (cSl 3 fDPart r438.2.1) s443.v, oBox b424 #[(.int .i64 r416.n), s419.v, s420.v] 48, oBox b408 #[(.int .i64 r394.1.n), s397.v, s398.v] 48, oC (cSl 1 fLDPart r394.1.undo) s397.v, oC (cSl 1 fLDPart r394.1.redo) s398.v, oC (cSl 3 fDPart r394.2.1) s399.v, oC (cSl 1 fI r389) s392.v, oC (cSl 1 fLDPart r381.undo) s384.v, oC (cSl 1 fLDPart r381.redo) s385.v, oBox b359 #[(.int .i64 aP.n), s_aP_1.v, s_aP_2.v] 43] [rV s_aT.v (cSl 1 fI aT), rV s_aP_2.v (cSl 1 fLDPart aP.redo), rV s_aP_1.v (cSl 1 fLDPart aP.undo)] w') ?_ ?_
            · rcases Bool.eq_false_or_eq_true c548 with hg568 | hg568
              · replace hx := xif_t hg568 hx
                refine gs rfl (isB_no hg568) rfl ?_
                refine gs rfl (isB_no hg568) rfl ?_
                refine gs rfl (isB_no hg568) rfl ?_
                refine gs rfl (isB_no hg568) rfl ?_
                refine wv rfl (p_t rfl hg568 rfl) ?_
                obtain rfl := Option.some.inj hx
                exact mid_nil () ⟨rfl, rfl, rfl, rfl, rfl, rfl, rfl, rfl, rfl, trivial⟩ hM
              · replace hx := xif_f hg568 hx
                refine gv rfl hg568 rfl (r_move rfl) ?_
                refine gv rfl hg568 rfl (r_move rfl) ?_
                obtain ⟨r579, h580, hx⟩ := bind_some' hx
                refine gc rfl hg568 rfl rfl (hM.callV fun X S oL hS hR hO => ct_laws_eqPartS _ X S r438.2.1 s443 r394.2.1 s399 hS (seeA hO (.tail _ (.tail _ (.tail _ (.tail _ (.tail _ (.tail _ (.tail _ (.tail _ (.tail _ (.head _))))))))))) (seeA hO (.tail _ (.tail _ (.tail _ (.tail _ (.tail _ (.tail _ (.tail _ (.tail _ (.tail _ (.tail _ (.tail _ (.tail _ (.tail _ (.tail _ (.head _)))))))))))))))) oL h580) ?_
                rintro _ w581 ⟨rfl, hR582⟩
                have hM := hM.call hR582
                refine gv rfl hg568 rfl (r_not rfl) ?_
                refine wv rfl (p_f rfl hg568 rfl) ?_
                obtain rfl := Option.some.inj hx
                exact mid_nil () ⟨rfl, rfl, rfl, rfl, rfl, rfl, rfl, rfl, rfl, trivial⟩ hM
            rintro _ w584 hM
            replace hx := hx576
            refine wv rfl (r_move rfl) ?_
            obtain ⟨c586, hx, hx591⟩ := bind_some' hx
            refine wl_mid 4 (fun _ : Unit => [(97, (.bool c586)), (1, s_aT.v), (2, (.pointer (some ⟨b359, 0, none⟩))), (6, (.pointer (some ⟨b408, 0, none⟩))), (7, s399.v), (8, (.bool r394.2.2)), (11, (.pointer (some ⟨b452, 0, none⟩))), (12, s443.v)]) (fun _ w' => St ⟨w, X, S⟩ [oC (cSl 1 fI r541.2) s433.v, oC (cSl 1 fLDPart r535.2.undo) s419.v, oC (cSl 1 fLDPart r535.2.redo) s420.v, oC (cSl 1 fI r520) s523.v, oC (cSl 1 fLDPart r500.undo) s503.v, oC (cSl 1 fLDPart r500.redo) s504.v, oBox b452 #[(.int .i64 r438.1.n), s441.v, s442.v] 48, oC (cSl 1 fLDPart r438.1.undo) s441.v, oC (cSl 1 fLDPart r438.1.redo) s442.v, oC (cSl 3 fDPart r438.2.1) s443.v, oBox b424 #[(.int .i64 r416.n), s419.v, s420.v] 48, oBox b408 #[(.int .i64 r394.1.n), s397.v, s398.v] 48, oC (cSl 1 fLDPart r394.1.undo) s397.v, oC (cSl 1 fLDPart r394.1.redo) s398.v, oC (cSl 3 fDPart r394.2.1) s399.v, oC (cSl 1 fI r389) s392.v, oC (cSl 1 fLDPart r381.undo) s384.v, oC (cSl 1 fLDPart r381.redo) s385.v, oBox b359 #[(.int .i64 aP.n), s_aP_1.v, s_aP_2.v] 43] [rV s_aT.v (cSl 1 fI aT), rV s_aP_2.v (cSl 1 fLDPart aP.redo), rV s_aP_1.v (cSl 1 fLDPart aP.undo)] w') ?_ ?_
            · rcases Bool.eq_false_or_eq_true c567 with hg587 | hg587
              · replace hx := xif_t hg587 hx
                refine gs rfl (isB_no hg587) rfl ?_
                refine gs rfl (isB_no hg587) rfl ?_
                refine gs rfl (isB_no hg587) rfl ?_
                refine wv rfl (p_t rfl hg587 rfl) ?_
                obtain rfl := Option.some.inj hx
                exact mid_nil () ⟨rfl, rfl, rfl, rfl, rfl, rfl, rfl, rfl, trivial⟩ hM
              · replace hx := xif_f hg587 hx
                refine gv rfl hg587 rfl (r_move rfl) ?_
                refine gv rfl hg587 rfl (r_move rfl) ?_
                refine gv rfl hg587 rfl (r_neqb Try.underlying4 rfl rfl) ?_
                refine wv rfl (p_f rfl hg587 rfl) ?_
                obtain rfl := Option.some.inj hx
                exact mid_nil () ⟨rfl, rfl, rfl, rfl, rfl, rfl, rfl, rfl, trivial⟩ hM
            rintro _ w595 hM
            replace hx := hx591
            refine wl_nil ?_
            refine sq_n ?_
            refine wc_cond rfl (fun hc596 => ?_) (fun hc596 => ?_)
            · replace hx := xif_t hc596 hx
              refine wc_seq ?_
              refine wc_region ?_
              refine wv rfl (r_assign rfl) ?_
              refine wl_nil ?_
              refine sq_n ?_
              refine wc_ret ?_
              refine sq_ret ?_
              obtain rfl := Option.some.inj hx
              refine fin_ret [(.bool false)] ⟨rfl, trivial⟩ ?_
              replace hM : St ⟨w, X, S⟩ [] [rV s_aT.v (cSl 1 fI aT), rV s_aP_2.v (cSl 1 fLDPart aP.redo), rV s_aP_1.v (cSl 1 fLDPart aP.undo)] _ := hM.tk 0
              have hM := hM.fewer rsN
              exact ⟨(), rfl, hM.gives⟩
            · replace hx := xif_f hc596 hx
              refine wc_skip ?_
              refine sq_n ?_
              refine wc_seq ?_
              refine wc_region ?_
              refine wv rfl (r_assign rfl) ?_
              refine wl_nil ?_
              refine sq_n ?_
              refine wc_seq ?_
              refine wc_region ?_
              refine wv rfl (r_ldBS Try.underlying48 sz48 rfl (us := [(.int .i64 r438.1.n), s441.v, s442.v]) rfl hM (.tail _ (.tail _ (.tail _ (.tail _ (.tail _ (.tail _ (.head _))))))) rfl) ?_
              refine wv rfl (r_move rfl) ?_
              replace hM : St ⟨w, X, S⟩ [oC (cSl 1 fLDPart r438.1.undo) s441.v, oC (cSl 1 fLDPart r438.1.redo) s442.v, oC (cSl 1 fI r541.2) s433.v, oC (cSl 1 fLDPart r535.2.undo) s419.v, oC (cSl 1 fLDPart r535.2.redo) s420.v, oC (cSl 1 fI r520) s523.v, oC (cSl 1 fLDPart r500.undo) s503.v, oC (cSl 1 fLDPart r500.redo) s504.v, oBox b452 #[(.int .i64 r438.1.n), s441.v, s442.v] 48, oC (cSl 3 fDPart r438.2.1) s443.v, oBox b424 #[(.int .i64 r416.n), s419.v, s420.v] 48, oBox b408 #[(.int .i64 r394.1.n), s397.v, s398.v] 48, oC (cSl 1 fLDPart r394.1.undo) s397.v, oC (cSl 1 fLDPart r394.1.redo) s398.v, oC (cSl 3 fDPart r394.2.1) s399.v, oC (cSl 1 fI r389) s392.v, oC (cSl 1 fLDPart r381.undo) s384.v, oC (cSl 1 fLDPart r381.redo) s385.v, oBox b359 #[(.int .i64 aP.n), s_aP_1.v, s_aP_2.v] 43] [rV s_aT.v (cSl 1 fI aT), rV s_aP_2.v (cSl 1 fLDPart aP.redo), rV s_aP_1.v (cSl 1 fLDPart aP.undo)] _ := hM.pl [8, 8]
              obtain ⟨r601, h602, hx⟩ := bind_some' hx
              refine w_call rfl rfl (hM.callO (l := [oC (cSl 1 fLDPart r438.1.undo) s441.v, oC (cSl 1 fLDPart r438.1.redo) s442.v]) fun X S oL hS hR hO => ct_laws_markStory _ X S r438.1 s441 s442 (1 : Int) hS  oL h602) ?_
              rintro _ w603 ⟨_, rfl, hM⟩
              replace hM : St ⟨w, X, S⟩ [oC (cSl 1 fLDPart r601.2.undo) s441.v, oC (cSl 1 fLDPart r601.2.redo) s442.v, oC (cSl 1 fI r541.2) s433.v, oC (cSl 1 fLDPart r535.2.undo) s419.v, oC (cSl 1 fLDPart r535.2.redo) s420.v, oC (cSl 1 fI r520) s523.v, oC (cSl 1 fLDPart r500.undo) s503.v, oC (cSl 1 fLDPart r500.redo) s504.v, oBox b452 #[(.int .i64 r438.1.n), s441.v, s442.v] 48, oC (cSl 3 fDPart r438.2.1) s443.v, oBox b424 #[(.int .i64 r416.n), s419.v, s420.v] 48, oBox b408 #[(.int .i64 r394.1.n), s397.v, s398.v] 48, oC (cSl 1 fLDPart r394.1.undo) s397.v, oC (cSl 1 fLDPart r394.1.redo) s398.v, oC (cSl 3 fDPart r394.2.1) s399.v, oC (cSl 1 fI r389) s392.v, oC (cSl 1 fLDPart r381.undo) s384.v, oC (cSl 1 fLDPart r381.redo) s385.v, oBox b359 #[(.int .i64 aP.n), s_aP_1.v, s_aP_2.v] 43] [rV s_aT.v (cSl 1 fI aT), rV s_aP_2.v (cSl 1 fLDPart aP.redo), rV s_aP_1.v (cSl 1 fLDPart aP.undo)] _ := hM
              refine wv rfl (r_assign rfl) ?_
              refine wl_nil ?_
              refine sq_n ?_
              refine wc_seq ?_
              refine wc_region ?_
              refine wv rfl (r_move rfl) ?_
              refine wv rfl (r_move rfl) ?_
              replace hM : St ⟨w, X, S⟩ [oC (cSl 3 fDPart r438.2.1) s443.v, oC (cSl 1 fLDPart r601.2.undo) s441.v, oC (cSl 1 fLDPart r601.2.redo) s442.v, oC (cSl 1 fI r541.2) s433.v, oC (cSl 1 fLDPart r535.2.undo) s419.v, oC (cSl 1 fLDPart r535.2.redo) s420.v, oC (cSl 1 fI r520) s523.v, oC (cSl 1 fLDPart r500.undo) s503.v, oC (cSl 1 fLDPart r500.redo) s504.v, oBox b452 #[(.int .i64 r438.1.n), s441.v, s442.v] 48, oBox b424 #[(.int .i64 r416.n), s419.v, s420.v] 48, oBox b408 #[(.int .i64 r394.1.n), s397.v, s398.v] 48, oC (cSl 1 fLDPart r394.1.undo) s397.v, oC (cSl 1 fLDPart r394.1.redo) s398.v, oC (cSl 3 fDPart r394.2.1) s399.v, oC (cSl 1 fI r389) s392.v, oC (cSl 1 fLDPart r381.undo) s384.v, oC (cSl 1 fLDPart r381.redo) s385.v, oBox b359 #[(.int .i64 aP.n), s_aP_1.v, s_aP_2.v] 43] [rV s_aT.v (cSl 1 fI aT), rV s_aP_2.v (cSl 1 fLDPart aP.redo), rV s_aP_1.v (cSl 1 fLDPart aP.undo)] _ := hM.pl [9]
              obtain ⟨r607, h608, hx⟩ := bind_some' hx
              refine w_call rfl rfl (hM.callO (l := [oC (cSl 3 fDPart r438.2.1) s443.v]) fun X S oL hS hR hO => ct_laws_markPartS _ X S r438.2.1 s443 r601.1 hS  oL h608) ?_
              rintro _ w609 ⟨_, rfl, hM⟩
              replace hM : St ⟨w, X, S⟩ [oC (cSl 3 fDPart r607.2) s443.v, oC (cSl 1 fLDPart r601.2.undo) s441.v, oC (cSl 1 fLDPart r601.2.redo) s442.v, oC (cSl 1 fI r541.2) s433.v, oC (cSl 1 fLDPart r535.2.undo) s419.v, oC (cSl 1 fLDPart r535.2.redo) s420.v, oC (cSl 1 fI r520) s523.v, oC (cSl 1 fLDPart r500.undo) s503.v, oC (cSl 1 fLDPart r500.redo) s504.v, oBox b452 #[(.int .i64 r438.1.n), s441.v, s442.v] 48, oBox b424 #[(.int .i64 r416.n), s419.v, s420.v] 48, oBox b408 #[(.int .i64 r394.1.n), s397.v, s398.v] 48, oC (cSl 1 fLDPart r394.1.undo) s397.v, oC (cSl 1 fLDPart r394.1.redo) s398.v, oC (cSl 3 fDPart r394.2.1) s399.v, oC (cSl 1 fI r389) s392.v, oC (cSl 1 fLDPart r381.undo) s384.v, oC (cSl 1 fLDPart r381.redo) s385.v, oBox b359 #[(.int .i64 aP.n), s_aP_1.v, s_aP_2.v] 43] [rV s_aT.v (cSl 1 fI aT), rV s_aP_2.v (cSl 1 fLDPart aP.redo), rV s_aP_1.v (cSl 1 fLDPart aP.undo)] _ := hM
              refine wv rfl (r_assign rfl) ?_
              refine wl_nil ?_
              refine sq_n ?_
              refine wc_seq ?_
              refine wc_region ?_
              refine wv rfl (r_assign rfl) ?_
              refine wl_nil ?_
              refine sq_n ?_
              refine wc_seq ?_
              refine wc_region ?_
              refine wv rfl (r_ldBS Try.underlying48 sz48 rfl (us := [(.int .i64 r438.1.n), s441.v, s442.v]) rfl hM (.tail _ (.tail _ (.tail _ (.tail _ (.tail _ (.tail _ (.tail _ (.tail _ (.tail _ (.head _)))))))))) rfl) ?_
              refine wv rfl (r_move rfl) ?_
              obtain ⟨r614, h615, hx⟩ := bind_some' hx
              refine w_call rfl rfl (hM.callV fun X S oL hS hR hO => ct_laws_heldStory _ X S (⟨r438.1.n, r601.2.undo, r601.2.redo⟩ : DStory) s441 s442 (1 : Int) hS (seeA hO (.tail _ (.head _))) (seeA hO (.tail _ (.tail _ (.head _)))) oL h615) ?_
              rintro _ w616 ⟨rfl, hR617⟩
              have hM := hM.call hR617
              refine wv rfl (r_assign rfl) ?_
              refine wl_nil ?_
              refine sq_n ?_
              refine wc_seq ?_
              refine wc_seq ?_
              refine wc_region ?_
              refine wv rfl (r_move rfl) ?_
              refine wv rfl (r_lss rfl rfl) ?_
              refine wl_nil ?_
              refine sq_n ?_
              refine wc_cond rfl (fun hc621 => ?_) (fun hc621 => ?_)
              · replace hx := xif_t hc621 hx
                refine wc_seq ?_
                refine wc_region ?_
                refine wv rfl (r_assign rfl) ?_
                refine wl_nil ?_
                refine sq_n ?_
                refine wc_ret ?_
                refine sq_ret ?_
                obtain rfl := Option.some.inj hx
                refine fin_ret [(.bool false)] ⟨rfl, trivial⟩ ?_
                replace hM : St ⟨w, X, S⟩ [] [rV s_aT.v (cSl 1 fI aT), rV s_aP_2.v (cSl 1 fLDPart aP.redo), rV s_aP_1.v (cSl 1 fLDPart aP.undo)] _ := hM.tk 0
                have hM := hM.fewer rsN
                exact ⟨(), rfl, hM.gives⟩
              · replace hx := xif_f hc621 hx
                refine wc_skip ?_
                refine sq_n ?_
                refine wc_seq ?_
                refine wc_region ?_
                refine wv rfl (r_move rfl) ?_
                refine wv rfl (r_move rfl) ?_
                obtain ⟨r625, h626, hx⟩ := bind_some' hx
                refine w_call rfl rfl (hM.callV fun X S oL hS hR hO => ct_laws_heldPartS _ X S r607.2 s443 r614 hS (seeA hO (.head _)) oL h626) ?_
                rintro _ w627 ⟨rfl, hR628⟩
                have hM := hM.call hR628
                refine wv rfl (r_assign rfl) ?_
                refine wl_nil ?_
                refine sq_n ?_
                refine wc_seq ?_
                refine wc_seq ?_
                refine wc_region ?_
                refine wv rfl (r_move rfl) ?_
                refine wv rfl (r_lss rfl rfl) ?_
                refine wl_nil ?_
                refine sq_n ?_
                refine wc_cond rfl (fun hc632 => ?_) (fun hc632 => ?_)
                · replace hx := xif_t hc632 hx
                  refine wc_seq ?_
                  refine wc_region ?_
                  refine wv rfl (r_assign rfl) ?_
                  refine wl_nil ?_
                  refine sq_n ?_
                  refine wc_ret ?_
                  refine sq_ret ?_
                  obtain rfl := Option.some.inj hx
                  refine fin_ret [(.bool false)] ⟨rfl, trivial⟩ ?_
                  replace hM : St ⟨w, X, S⟩ [] [rV s_aT.v (cSl 1 fI aT), rV s_aP_2.v (cSl 1 fLDPart aP.redo), rV s_aP_1.v (cSl 1 fLDPart aP.undo)] _ := hM.tk 0
                  have hM := hM.fewer rsN
                  exact ⟨(), rfl, hM.gives⟩
                · replace hx := xif_f hc632 hx
                  refine wc_skip ?_
                  refine sq_n ?_
                  refine wc_seq ?_
                  refine wc_seq ?_
                  refine wc_region ?_
                  refine wv rfl (r_move rfl) ?_
                  refine wv rfl (r_move rfl) ?_
                  refine wv rfl (r_neq rfl rfl) ?_
                  refine wl_nil ?_
                  refine sq_n ?_
                  refine wc_cond rfl (fun hc637 => ?_) (fun hc637 => ?_)
                  · replace hx := xif_t hc637 hx
                    refine wc_seq ?_
                    refine wc_region ?_
                    refine wv rfl (r_assign rfl) ?_
                    refine wl_nil ?_
                    refine sq_n ?_
                    refine wc_ret ?_
                    refine sq_ret ?_
                    obtain rfl := Option.some.inj hx
                    refine fin_ret [(.bool false)] ⟨rfl, trivial⟩ ?_
                    replace hM : St ⟨w, X, S⟩ [] [rV s_aT.v (cSl 1 fI aT), rV s_aP_2.v (cSl 1 fLDPart aP.redo), rV s_aP_1.v (cSl 1 fLDPart aP.undo)] _ := hM.tk 0
                    have hM := hM.fewer rsN
                    exact ⟨(), rfl, hM.gives⟩
                  · replace hx := xif_f hc637 hx
                    refine wc_skip ?_
                    refine sq_n ?_
                    refine wc_seq ?_
                    refine wc_region ?_
                    refine wv rfl (r_ldBS Try.underlying43 sz43 rfl (us := [(.int .i64 aP.n), s_aP_1.v, s_aP_2.v]) rfl hM (.tail _ (.tail _ (.tail _ (.tail _ (.tail _ (.tail _ (.tail _ (.tail _ (.tail _ (.tail _ (.tail _ (.tail _ (.tail _ (.tail _ (.tail _ (.tail _ (.tail _ (.tail _ (.head _))))))))))))))))))) rfl) ?_
                    obtain ⟨r640, h641, hx⟩ := bind_some' hx
                    refine w_call rfl rfl (hM.callO (l := []) fun X S oL hS hR hO => ct_laws_toStory _ X S aP s_aP_1 s_aP_2 hS (hR _ (.tail _ (.tail _ (.head _)))) (hR _ (.tail _ (.head _))) oL h641) ?_
                    rintro _ w642 ⟨⟨s643, s644⟩, rfl, hM⟩
                    replace hM : St ⟨w, X, S⟩ [oC (cSl 1 fLDPart r640.undo) s643.v, oC (cSl 1 fLDPart r640.redo) s644.v, oC (cSl 3 fDPart r607.2) s443.v, oC (cSl 1 fLDPart r601.2.undo) s441.v, oC (cSl 1 fLDPart r601.2.redo) s442.v, oC (cSl 1 fI r541.2) s433.v, oC (cSl 1 fLDPart r535.2.undo) s419.v, oC (cSl 1 fLDPart r535.2.redo) s420.v, oC (cSl 1 fI r520) s523.v, oC (cSl 1 fLDPart r500.undo) s503.v, oC (cSl 1 fLDPart r500.redo) s504.v, oBox b452 #[(.int .i64 r438.1.n), s441.v, s442.v] 48, oBox b424 #[(.int .i64 r416.n), s419.v, s420.v] 48, oBox b408 #[(.int .i64 r394.1.n), s397.v, s398.v] 48, oC (cSl 1 fLDPart r394.1.undo) s397.v, oC (cSl 1 fLDPart r394.1.redo) s398.v, oC (cSl 3 fDPart r394.2.1) s399.v, oC (cSl 1 fI r389) s392.v, oC (cSl 1 fLDPart r381.undo) s384.v, oC (cSl 1 fLDPart r381.redo) s385.v, oBox b359 #[(.int .i64 aP.n), s_aP_1.v, s_aP_2.v] 43] [rV s_aT.v (cSl 1 fI aT), rV s_aP_2.v (cSl 1 fLDPart aP.redo), rV s_aP_1.v (cSl 1 fLDPart aP.undo)] _ := hM
                    refine wv rfl (r_move rfl) ?_
                    obtain ⟨r648, h649, hx⟩ := bind_some' hx
                    refine w_call rfl rfl (hM.callO (l := []) fun X S oL hS hR hO => ct_laws_toIntS _ X S aT s_aT hS (hR _ (.head _)) oL h649) ?_
                    rintro _ w650 ⟨s651, rfl, hM⟩
                    replace hM : St ⟨w, X, S⟩ [oC (cSl 1 fI r648) s651.v, oC (cSl 1 fLDPart r640.undo) s643.v, oC (cSl 1 fLDPart r640.redo) s644.v, oC (cSl 3 fDPart r607.2) s443.v, oC (cSl 1 fLDPart r601.2.undo) s441.v, oC (cSl 1 fLDPart r601.2.redo) s442.v, oC (cSl 1 fI r541.2) s433.v, oC (cSl 1 fLDPart r535.2.undo) s419.v, oC (cSl 1 fLDPart r535.2.redo) s420.v, oC (cSl 1 fI r520) s523.v, oC (cSl 1 fLDPart r500.undo) s503.v, oC (cSl 1 fLDPart r500.redo) s504.v, oBox b452 #[(.int .i64 r438.1.n), s441.v, s442.v] 48, oBox b424 #[(.int .i64 r416.n), s419.v, s420.v] 48, oBox b408 #[(.int .i64 r394.1.n), s397.v, s398.v] 48, oC (cSl 1 fLDPart r394.1.undo) s397.v, oC (cSl 1 fLDPart r394.1.redo) s398.v, oC (cSl 3 fDPart r394.2.1) s399.v, oC (cSl 1 fI r389) s392.v, oC (cSl 1 fLDPart r381.undo) s384.v, oC (cSl 1 fLDPart r381.redo) s385.v, oBox b359 #[(.int .i64 aP.n), s_aP_1.v, s_aP_2.v] 43] [rV s_aT.v (cSl 1 fI aT), rV s_aP_2.v (cSl 1 fLDPart aP.redo), rV s_aP_1.v (cSl 1 fLDPart aP.undo)] _ := hM
                    obtain ⟨r653, h654, hx⟩ := bind_some' hx
                    refine w_call rfl rfl (hM.callO (l := []) fun X S oL hS hR hO => ct_impl_PastUndo _ X S r640 s643 s644 r648 s651 hS (seeA hO (.tail _ (.head _))) (seeA hO (.tail _ (.tail _ (.head _)))) (seeA hO (.head _)) oL h654) ?_
                    rintro _ w655 ⟨⟨s656, s657, s658⟩, rfl, hM⟩
                    replace hM : St ⟨w, X, S⟩ [oC (cSl 1 fLDPart r653.1.undo) s656.v, oC (cSl 1 fLDPart r653.1.redo) s657.v, oC (cSl 3 fDPart r653.2.1) s658.v, oC (cSl 1 fI r648) s651.v, oC (cSl 1 fLDPart r640.undo) s643.v, oC (cSl 1 fLDPart r640.redo) s644.v, oC (cSl 3 fDPart r607.2) s443.v, oC (cSl 1 fLDPart r601.2.undo) s441.v, oC (cSl 1 fLDPart r601.2.redo) s442.v, oC (cSl 1 fI r541.2) s433.v, oC (cSl 1 fLDPart r535.2.undo) s419.v, oC (cSl 1 fLDPart r535.2.redo) s420.v, oC (cSl 1 fI r520) s523.v, oC (cSl 1 fLDPart r500.undo) s503.v, oC (cSl 1 fLDPart r500.redo) s504.v, oBox b452 #[(.int .i64 r438.1.n), s441.v, s442.v] 48, oBox b424 #[(.int .i64 r416.n), s419.v, s420.v] 48, oBox b408 #[(.int .i64 r394.1.n), s397.v, s398.v] 48, oC (cSl 1 fLDPart r394.1.undo) s397.v, oC (cSl 1 fLDPart r394.1.redo) s398.v, oC (cSl 3 fDPart r394.2.1) s399.v, oC (cSl 1 fI r389) s392.v, oC (cSl 1 fLDPart r381.undo) s384.v, oC (cSl 1 fLDPart r381.redo) s385.v, oBox b359 #[(.int .i64 aP.n), s_aP_1.v, s_aP_2.v] 43] [rV s_aT.v (cSl 1 fI aT), rV s_aP_2.v (cSl 1 fLDPart aP.redo), rV s_aP_1.v (cSl 1 fLDPart aP.undo)] _ := hM
                    refine wv rfl (r_move rfl) ?_
                    refine wv rfl (r_extract rfl rfl) ?_
                    refine wv rfl (r_extract rfl rfl) ?_
                    refine wv rfl (r_extract rfl rfl) ?_
                    refine w_ex rfl (x_alloc sz48 hM ?_); intro b667 w666 hR668 hM
                    replace hM : St ⟨w, X, S⟩ [oBox b667 #[(.int .i64 0), (.slice none 0 0), (.slice none 0 0)] 48, oC (cSl 1 fLDPart r653.1.undo) s656.v, oC (cSl 1 fLDPart r653.1.redo) s657.v, oC (cSl 3 fDPart r653.2.1) s658.v, oC (cSl 1 fI r648) s651.v, oC (cSl 1 fLDPart r640.undo) s643.v, oC (cSl 1 fLDPart r640.redo) s644.v, oC (cSl 3 fDPart r607.2) s443.v, oC (cSl 1 fLDPart r601.2.undo) s441.v, oC (cSl 1 fLDPart r601.2.redo) s442.v, oC (cSl 1 fI r541.2) s433.v, oC (cSl 1 fLDPart r535.2.undo) s419.v, oC (cSl 1 fLDPart r535.2.redo) s420.v, oC (cSl 1 fI r520) s523.v, oC (cSl 1 fLDPart r500.undo) s503.v, oC (cSl 1 fLDPart r500.redo) s504.v, oBox b452 #[(.int .i64 r438.1.n), s441.v, s442.v] 48, oBox b424 #[(.int .i64 r416.n), s419.v, s420.v] 48, oBox b408 #[(.int .i64 r394.1.n), s397.v, s398.v] 48, oC (cSl 1 fLDPart r394.1.undo) s397.v, oC (cSl 1 fLDPart r394.1.redo) s398.v, oC (cSl 3 fDPart r394.2.1) s399.v, oC (cSl 1 fI r389) s392.v, oC (cSl 1 fLDPart r381.undo) s384.v, oC (cSl 1 fLDPart r381.redo) s385.v, oBox b359 #[(.int .i64 aP.n), s_aP_1.v, s_aP_2.v] 43] [rV s_aT.v (cSl 1 fI aT), rV s_aP_2.v (cSl 1 fLDPart aP.redo), rV s_aP_1.v (cSl 1 fLDPart aP.undo)] _ := hM
                    refine w_exu (x_stB #[(.int .i64 r653.1.n), s656.v, s657.v] sz48 rfl rfl rfl rfl rfl rfl hM ?_); intro w670 hM
                    refine wv rfl (r_assign rfl) ?_
                    refine wv rfl (r_assign rfl) ?_
                    refine wl_nil ?_
                    refine sq_n ?_
                    refine wc_seq ?_
                    refine wc_seq ?_
                    refine wc_region ?_
                    refine wv rfl (r_ldBS Try.underlying48 sz48 rfl (us := [(.int .i64 r653.1.n), s656.v, s657.v]) rfl hM (.head _) rfl) ?_
                    refine wv rfl (r_ldBS Try.underlying48 sz48 rfl (us := [(.int .i64 r394.1.n), s397.v, s398.v]) rfl hM (.tail _ (.tail _ (.tail _ (.tail _ (.tail _ (.tail _ (.tail _ (.tail _ (.tail _ (.tail _ (.tail _ (.tail _ (.tail _ (.tail _ (.tail _ (.tail _ (.tail _ (.tail _ (.head _))))))))))))))))))) rfl) ?_
                    obtain ⟨r676, h677, hx⟩ := bind_some' hx
                    refine w_call rfl rfl (hM.callV fun X S oL hS hR hO => ct_laws_eqStory _ X S r653.1 s656 s657 r394.1 s397 s398 hS (seeA hO (.tail _ (.head _))) (seeA hO (.tail _ (.tail _ (.head _)))) (seeA hO (.tail _ (.tail _ (.tail _ (.tail _ (.tail _ (.tail _ (.tail _ (.tail _ (.tail _ (.tail _ (.tail _ (.tail _ (.tail _ (.tail _ (.tail _ (.tail _ (.tail _ (.tail _ (.tail _ (.head _))))))))))))))))))))) (seeA hO (.tail _ (.tail _ (.tail _ (.tail _ (.tail _ (.tail _ (.tail _ (.tail _ (.tail _ (.tail _ (.tail _ (.tail _ (.tail _ (.tail _ (.tail _ (.tail _ (.tail _ (.tail _ (.tail _ (.tail _ (.head _)))))))))))))))))))))) oL h677) ?_
                    rintro _ w678 ⟨rfl, hR679⟩
                    have hM := hM.call hR679
                    refine wv rfl (r_not rfl) ?_
                    refine wv rfl (r_move rfl) ?_
                    obtain ⟨c682, hx, hx691⟩ := bind_some' hx
                    refine wl_mid 5 (fun _ : Unit => [(135, (.bool c682)), (8, (.bool r394.2.2)), (11, (.pointer (some ⟨b452, 0, none⟩))), (12, s443.v), (15, (.int .i64 r607.1)), (19, (.bool r653.2.2))]) (fun _ w' => St ⟨w, X, S⟩ [oBox b667 #[(.int .i64 r653.1.n), s656.v, s657.v] 48, oC (cSl 1 fLDPart r653.1.undo) s656.v, oC (cSl 1 fLDPart r653.1.redo) s657.v, oC (cSl 3 fDPart r653.2.1) s658.v, oC (cSl 1 fI r648) s651.v, oC (cSl 1 fLDPart r640.undo) s643.v, oC (cSl 1 fLDPart r640.redo) s644.v, oC (cSl 3 fDPart r607.2) s443.v, oC (cSl 1 fLDPart r601.2.undo) s441.v, oC (cSl 1 fLDPart r601.2.redo) s442.v, oC (cSl 1 fI r541.2) s433.v, oC (cSl 1 fLDPart r535.2.undo) s419.v, oC (cSl 1 fLDPart r535.2.redo) s420.v, oC (cSl 1 fI r520) s523.v, oC (cSl 1 fLDPart r500.undo) s503.v, oC (cSl 1 fLDPart r500.redo) s504.v, oBox b452 #[(.int .i64 r438.1.n), s441.v, s442.v] 48, oBox b424 #[(.int .i64 r416.n), s419.v, s420.v] 48, oBox b408 #[(.int .i64 r394.1.n), s397.v, s398.v] 48, oC (cSl 1 fLDPart r394.1.undo) s397.v, oC (cSl 1 fLDPart r394.1.redo) s398.v, oC (cSl 3 fDPart r394.2.1) s399.v, oC (cSl 1 fI r389) s392.v, oC (cSl 1 fLDPart r381.undo) s384.v, oC (cSl 1 fLDPart r381.redo) s385.v, oBox b359 #[(.int .i64 aP.n), s_aP_1.v, s_aP_2.v] 43] [rV s_aT.v (cSl 1 fI aT), rV s_aP_2.v (cSl 1 fLDPart aP.redo), rV s_aP_1.v (cSl 1 fLDPart aP.undo)] w') ?_ ?_
                    · rcases Bool.eq_false_or_eq_true (!r676) with hg683 | hg683
                      · replace hx := xif_t hg683 hx
                        refine gs rfl (isB_no hg683) rfl ?_
                        refine gs rfl (isB_no hg683) rfl ?_
                        refine gs rfl (isB_no hg683) rfl ?_
                        refine gs rfl (isB_no hg683) rfl ?_
                        refine wv rfl (p_t rfl hg683 rfl) ?_
                        obtain rfl := Option.some.inj hx
                        exact mid_nil () ⟨rfl, rfl, rfl, rfl, rfl, rfl, trivial⟩ hM
                      · replace hx := xif_f hg683 hx
                        refine gv rfl hg683 rfl (r_move rfl) ?_
                        refine gv rfl hg683 rfl (r_move rfl) ?_
                        obtain ⟨r694, h695, hx⟩ := bind_some' hx
                        refine gc rfl hg683 rfl rfl (hM.callV fun X S oL hS hR hO => ct_laws_eqPartS _ X S r653.2.1 s658 r394.2.1 s399 hS (seeA hO (.tail _ (.tail _ (.tail _ (.head _))))) (seeA hO (.tail _ (.tail _ (.tail _ (.tail _ (.tail _ (.tail _ (.tail _ (.tail _ (.tail _ (.tail _ (.tail _ (.tail _ (.tail _ (.tail _ (.tail _ (.tail _ (.tail _ (.tail _ (.tail _ (.tail _ (.tail _ (.head _))))))))))))))))))))))) oL h695) ?_
                        rintro _ w696 ⟨rfl, hR697⟩
                        have hM := hM.call hR697
                        refine gv rfl hg683 rfl (r_not rfl) ?_
                        refine wv rfl (p_f rfl hg683 rfl) ?_
                        obtain rfl := Option.some.inj hx
                        exact mid_nil () ⟨rfl, rfl, rfl, rfl, rfl, rfl, trivial⟩ hM
                    rintro _ w699 hM
                    replace hx := hx691
                    refine wv rfl (r_move rfl) ?_
                    obtain ⟨c701, hx, hx706⟩ := bind_some' hx
                    refine wl_mid 4 (fun _ : Unit => [(140, (.bool c701)), (11, (.pointer (some ⟨b452, 0, none⟩))), (12, s443.v), (15, (.int .i64 r607.1))]) (fun _ w' => St ⟨w, X, S⟩ [oBox b667 #[(.int .i64 r653.1.n), s656.v, s657.v] 48, oC (cSl 1 fLDPart r653.1.undo) s656.v, oC (cSl 1 fLDPart r653.1.redo) s657.v, oC (cSl 3 fDPart r653.2.1) s658.v, oC (cSl 1 fI r648) s651.v, oC (cSl 1 fLDPart r640.undo) s643.v, oC (cSl 1 fLDPart r640.redo) s644.v, oC (cSl 3 fDPart r607.2) s443.v, oC (cSl 1 fLDPart r601.2.undo) s441.v, oC (cSl 1 fLDPart r601.2.redo) s442.v, oC (cSl 1 fI r541.2) s433.v, oC (cSl 1 fLDPart r535.2.undo) s419.v, oC (cSl 1 fLDPart r535.2.redo) s420.v, oC (cSl 1 fI r520) s523.v, oC (cSl 1 fLDPart r500.undo) s503.v, oC (cSl 1 fLDPart r500.redo) s504.v, oBox b452 #[(.int .i64 r438.1.n), s441.v, s442.v] 48, oBox b424 #[(.int .i64 r416.n), s419.v, s420.v] 48, oBox b408 #[(.int .i64 r394.1.n), s397.v, s398.v] 48, oC (cSl 1 fLDPart r394.1.undo) s397.v, oC (cSl 1 fLDPart r394.1.redo) s398.v, oC (cSl 3 fDPart r394.2.1) s399.v, oC (cSl 1 fI r389) s392.v, oC (cSl 1 fLDPart r381.undo) s384.v, oC (cSl 1 fLDPart r381.redo) s385.v, oBox b359 #[(.int .i64 aP.n), s_aP_1.v, s_aP_2.v] 43] [rV s_aT.v (cSl 1 fI aT), rV s_aP_2.v (cSl 1 fLDPart aP.redo), rV s_aP_1.v (cSl 1 fLDPart aP.undo)] w') ?_ ?_
                    · rcases Bool.eq_false_or_eq_true c682 with hg702 | hg702
                      · replace hx := xif_t hg702 hx
                        refine gs rfl (isB_no hg702) rfl ?_
                        refine gs rfl (isB_no hg702) rfl ?_
                        refine gs rfl (isB_no hg702) rfl ?_
                        refine wv rfl (p_t rfl hg702 rfl) ?_
                        obtain rfl := Option.some.inj hx
                        exact mid_nil () ⟨rfl, rfl, rfl, rfl, trivial⟩ hM
                      · replace hx := xif_f hg702 hx
                        refine gv rfl hg702 rfl (r_move rfl) ?_
                        refine gv rfl hg702 rfl (r_move rfl) ?_
                        refine gv rfl hg702 rfl (r_neqb Try.underlying4 rfl rfl) ?_
                        refine wv rfl (p_f rfl hg702 rfl) ?_
                        obtain rfl := Option.some.inj hx
                        exact mid_nil () ⟨rfl, rfl, rfl, rfl, trivial⟩ hM
                    rintro _ w710 hM
                    replace hx := hx706
                    refine wl_nil ?_
                    refine sq_n ?_
                    refine wc_cond rfl (fun hc711 => ?_) (fun hc711 => ?_)
                    · replace hx := xif_t hc711 hx
                      refine wc_seq ?_
                      refine wc_region ?_
                      refine wv rfl (r_assign rfl) ?_
                      refine wl_nil ?_
                      refine sq_n ?_
                      refine wc_ret ?_
                      refine sq_ret ?_
                      obtain rfl := Option.some.inj hx
                      refine fin_ret [(.bool false)] ⟨rfl, trivial⟩ ?_
                      replace hM : St ⟨w, X, S⟩ [] [rV s_aT.v (cSl 1 fI aT), rV s_aP_2.v (cSl 1 fLDPart aP.redo), rV s_aP_1.v (cSl 1 fLDPart aP.undo)] _ := hM.tk 0
                      have hM := hM.fewer rsN
                      exact ⟨(), rfl, hM.gives⟩
                    · replace hx := xif_f hc711 hx
                      refine wc_skip ?_
                      refine sq_n ?_
                      refine wc_seq ?_
                      refine wc_region ?_
                      refine wv rfl (r_assign rfl) ?_
                      refine wl_nil ?_
                      refine sq_n ?_
                      refine wc_seq ?_
                      refine wc_region ?_
                      refine wv rfl (r_ldBS Try.underlying48 sz48 rfl (us := [(.int .i64 r438.1.n), s441.v, s442.v]) rfl hM (.tail _ (.tail _ (.tail _ (.tail _ (.tail _ (.tail _ (.tail _ (.tail _ (.tail _ (.tail _ (.tail _ (.tail _ (.tail _ (.tail _ (.tail _ (.tail _ (.head _))))))))))))))))) rfl) ?_
                      refine wv rfl (r_move rfl) ?_
                      obtain ⟨r716, h717, hx⟩ := bind_some' hx
                      refine w_call rfl rfl (hM.callV fun X S oL hS hR hO => ct_laws_heldStory _ X S (⟨r438.1.n, r601.2.undo, r601.2.redo⟩ : DStory) s441 s442 (1 : Int) hS (seeA hO (.tail _ (.tail _ (.tail _ (.tail _ (.tail _ (.tail _ (.tail _ (.tail _ (.head _)))))))))) (seeA hO (.tail _ (.tail _ (.tail _ (.tail _ (.tail _ (.tail _ (.tail _ (.tail _ (.tail _ (.head _))))))))))) oL h717) ?_
                      rintro _ w718 ⟨rfl, hR719⟩
                      have hM := hM.call hR719
                      refine wv rfl (r_assign rfl) ?_
                      refine wl_nil ?_
                      refine sq_n ?_
                      refine wc_seq ?_
                      refine wc_seq ?_
                      refine wc_region ?_
                      refine wv rfl (r_move rfl) ?_
                      refine wv rfl (r_lss rfl rfl) ?_
                      refine wl_nil ?_
                      refine sq_n ?_
                      refine wc_cond rfl (fun hc723 => ?_) (fun hc723 => ?_)
                      · replace hx := xif_t hc723 hx
                        refine wc_seq ?_
                        refine wc_region ?_
                        refine wv rfl (r_assign rfl) ?_
                        refine wl_nil ?_
                        refine sq_n ?_
                        refine wc_ret ?_
                        refine sq_ret ?_
                        obtain rfl := Option.some.inj hx
                        refine fin_ret [(.bool false)] ⟨rfl, trivial⟩ ?_
                        replace hM : St ⟨w, X, S⟩ [] [rV s_aT.v (cSl 1 fI aT), rV s_aP_2.v (cSl 1 fLDPart aP.redo), rV s_aP_1.v (cSl 1 fLDPart aP.undo)] _ := hM.tk 0
                        have hM := hM.fewer rsN
                        exact ⟨(), rfl, hM.gives⟩
                      · replace hx := xif_f hc723 hx
                        refine wc_skip ?_
                        refine sq_n ?_
                        refine wc_seq ?_
                        refine wc_region ?_
                        refine wv rfl (r_move rfl) ?_
                        refine wv rfl (r_move rfl) ?_
                        obtain ⟨r727, h728, hx⟩ := bind_some' hx
                        refine w_call rfl rfl (hM.callV fun X S oL hS hR hO => ct_laws_heldPartS _ X S r607.2 s443 r716 hS (seeA hO (.tail _ (.tail _ (.tail _ (.tail _ (.tail _ (.tail _ (.tail _ (.head _))))))))) oL h728) ?_
                        rintro _ w729 ⟨rfl, hR730⟩
                        have hM := hM.call hR730
                        refine wv rfl (r_assign rfl) ?_
                        refine wl_nil ?_
                        refine sq_n ?_
                        refine wc_seq ?_
                        refine wc_seq ?_
                        refine wc_region ?_
                        refine wv rfl (r_move rfl) ?_
                        refine wv rfl (r_lss rfl rfl) ?_
                        refine wl_nil ?_
                        refine sq_n ?_
                        refine wc_cond rfl (fun hc734 => ?_) (fun hc734 => ?_)
                        · replace hx := xif_t hc734 hx
                          refine wc_seq ?_
                          refine wc_region ?_
                          refine wv rfl (r_assign rfl) ?_
                          refine wl_nil ?_
                          refine sq_n ?_
                          refine wc_ret ?_
                          refine sq_ret ?_
                          obtain rfl := Option.some.inj hx
                          refine fin_ret [(.bool false)] ⟨rfl, trivial⟩ ?_
                          replace hM : St ⟨w, X, S⟩ [] [rV s_aT.v (cSl 1 fI aT), rV s_aP_2.v (cSl 1 fLDPart aP.redo), rV s_aP_1.v (cSl 1 fLDPart aP.undo)] _ := hM.tk 0
                          have hM := hM.fewer rsN
                          exact ⟨(), rfl, hM.gives⟩
                        · replace hx := xif_f hc734 hx
                          refine wc_skip ?_
                          refine sq_n ?_
                          refine wc_seq ?_
                          refine wc_seq ?_
                          refine wc_region ?_
                          refine wv rfl (r_move rfl) ?_
                          refine wv rfl (r_move rfl) ?_
                          refine wv rfl (r_neq rfl rfl) ?_
                          refine wl_nil ?_
                          refine sq_n ?_
                          refine wc_cond rfl (fun hc739 => ?_) (fun hc739 => ?_)
                          · replace hx := xif_t hc739 hx
                            refine wc_seq ?_
                            refine wc_region ?_
                            refine wv rfl (r_assign rfl) ?_
                            refine wl_nil ?_
                            refine sq_n ?_
                            refine wc_ret ?_
                            refine sq_ret ?_
                            obtain rfl := Option.some.inj hx
                            refine fin_ret [(.bool false)] ⟨rfl, trivial⟩ ?_
                            replace hM : St ⟨w, X, S⟩ [] [rV s_aT.v (cSl 1 fI aT), rV s_aP_2.v (cSl 1 fLDPart aP.redo), rV s_aP_1.v (cSl 1 fLDPart aP.undo)] _ := hM.tk 0
                            have hM := hM.fewer rsN
                            exact ⟨(), rfl, hM.gives⟩
                          · replace hx := xif_f hc739 hx
                            refine wc_skip ?_
                            refine sq_n ?_
                            refine wc_seq ?_
                            refine wc_region ?_
                            refine wv rfl (r_assign rfl) ?_
                            refine wl_nil ?_
                            refine sq_n ?_
                            refine wc_ret ?_
                            obtain rfl := Option.some.inj hx
                            refine fin_ret [(.bool true)] ⟨rfl, trivial⟩ ?_
                            replace hM : St ⟨w, X, S⟩ [] [rV s_aT.v (cSl 1 fI aT), rV s_aP_2.v (cSl 1 fLDPart aP.redo), rV s_aP_1.v (cSl 1 fLDPart aP.undo)] _ := hM.tk 0
                            have hM := hM.fewer rsN
                            exact ⟨(), rfl, hM.gives⟩

noncomputable def x_laws_FnExactPastRedo (aP : DStory) (aT : List Int) : Option Bool :=
  bif decide ((1048576 : Int) < (aT.length : Int)) then (some true) else (Option.bind (x_laws_szStory aP 1048576) fun r13 => bif decide (r13 < 0) then (some true) else (Option.bind (x_laws_toStory aP) fun r22 => Option.bind (x_laws_toIntS aT) fun r30 => Option.bind (x_spec_PastRedo r22 r30) fun r35 => Option.bind (x_laws_toStory aP) fun r57 => Option.bind (x_laws_toIntS aT) fun r71 => Option.bind (x_impl_PastRedo r57 r71) fun r79 => Option.bind (x_laws_eqStory r79.1 r35.1) fun r102 => Option.bind (bif !r102 then (some true) else (Option.bind (x_laws_eqPartS r79.2.1 r35.2.1) fun r119 => some (!r119))) fun c108 => Option.bind (bif c108 then (some true) else (some (!(r79.2.2 == r35.2.2)))) fun c125 => bif c125 then (some false) else (Option.bind (x_laws_toStory aP) fun r136 => Option.bind (x_laws_eqStory r57 r136) fun r146 => bif !r146 then (some false) else (Option.bind (x_laws_toIntS aT) fun r155 => Option.bind (x_laws_eqIntS r71 r155) fun r160 => bif !r160 then (some false) else (Option.bind (x_laws_markStory r57 1) fun r169 => Option.bind (x_laws_markIntS r71 r169.1) fun r175 => Option.bind (bif decide (r175.1 < 0) then (some true) else (Option.bind (x_laws_eqStory r79.1 r35.1) fun r193 => some (!r193))) fun c182 => Option.bind (bif c182 then (some true) else (Option.bind (x_laws_eqPartS r79.2.1 r35.2.1) fun r210 => some (!r210))) fun c199 => Option.bind (bif c199 then (some true) else (some (!(r79.2.2 == r35.2.2)))) fun c216 => bif c216 then (some false) else (Option.bind (x_laws_markStory r79.1 1) fun r228 => Option.bind (x_laws_markPartS r79.2.1 r228.1) fun r234 => Option.bind (x_laws_heldStory (⟨r79.1.n, r228.2.undo, r228.2.redo⟩ : DStory) 1) fun r241 => bif decide (r241 < 0) then (some false) else (Option.bind (x_laws_heldPartS r234.2 r241) fun r251 => bif decide (r251 < 0) then (some false) else (bif !decide (r251 = r234.1) then (some false) else (Option.bind (x_laws_toStory aP) fun r264 => Option.bind (x_laws_toIntS aT) fun r272 => Option.bind (x_impl_PastRedo r264 r272) fun r277 => Option.bind (x_laws_eqStory r277.1 r35.1) fun r300 => Option.bind (bif !r300 then (some true) else (Option.bind (x_laws_eqPartS r277.2.1 r35.2.1) fun r317 => some (!r317))) fun c306 => Option.bind (bif c306 then (some true) else (some (!(r277.2.2 == r35.2.2)))) fun c323 => bif c323 then (some false) else (Option.bind (x_laws_heldStory (⟨r79.1.n, r228.2.undo, r228.2.redo⟩ : DStory) 1) fun r335 => bif decide (r335 < 0) then (some false) else (Option.bind (x_laws_heldPartS r234.2 r335) fun r345 => bif decide (r345 < 0) then (some false) else (bif !decide (r345 = r234.1) then (some false) else (some true)))))))))))))
theorem ct_laws_FnExactPastRedo (w : World) (X S : Bs) (aP : DStory) (s_aP_1 : Sv) (s_aP_2 : Sv) (aT : List Int) (s_aT : Sv) (hS : ∀ b, S b → b < w.heap.size ∧ ¬ X b) (a_aP_1 : (cSl 1 fLDPart aP.undo).rd S w s_aP_1.v) (a_aP_2 : (cSl 1 fLDPart aP.redo).rd S w s_aP_2.v) (a_aT_0 : (cSl 1 fI aT).rd S w s_aT.v) (oL : Sep [] X w) {r : Bool} (hx : x_laws_FnExactPastRedo aP aT = some r) :
    Ret Try.prog 13 [(.agg #[(.int .i64 aP.n), s_aP_1.v, s_aP_2.v]), s_aT.v] w (fun u w' => ∃ _ : Unit, u = (.bool r) ∧ Gives X S w [] [] w') := by
  unfold x_laws_FnExactPastRedo at hx
  refine enter Try.func13 rfl Try.ntmps13 (by kernel_rfl) rfl ?_
  have hM := St.enter oL hS
  have hM := hM.addE (r := rV s_aP_1.v (cSl 1 fLDPart aP.undo)) a_aP_1
  have hM := hM.addE (r := rV s_aP_2.v (cSl 1 fLDPart aP.redo)) a_aP_2
  have hM := hM.addE (r := rV s_aT.v (cSl 1 fI aT)) a_aT_0
  refine wc_seq ?_
  refine wc_region ?_
  refine w_ex rfl (x_box rfl hM ?_); intro b359 w358 hR360 hM
  replace hM : St ⟨w, X, S⟩ [oBox b359 #[(.int .i64 aP.n), s_aP_1.v, s_aP_2.v] 43] [rV s_aT.v (cSl 1 fI aT), rV s_aP_2.v (cSl 1 fLDPart aP.redo), rV s_aP_1.v (cSl 1 fLDPart aP.undo)] _ := hM
  refine wv rfl (r_assign rfl) ?_
  refine wl_nil ?_
  refine sq_n ?_
  refine wc_seq ?_
  refine wc_seq ?_
  refine wc_region ?_
  refine wv rfl (r_move rfl) ?_
  refine wv rfl (r_lenC Try.underlying24 rfl (hM.seeR (.head _))) ?_
  refine wv rfl (r_gtr rfl rfl) ?_
  refine wl_nil ?_
  refine sq_n ?_
  refine wc_cond rfl (fun hc366 => ?_) (fun hc366 => ?_)
  · replace hx := xif_t hc366 hx
    refine wc_seq ?_
    refine wc_region ?_
    refine wv rfl (r_assign rfl) ?_
    refine wl_nil ?_
    refine sq_n ?_
    refine wc_ret ?_
    refine sq_ret ?_
    obtain rfl := Option.some.inj hx
    refine fin_ret [(.bool true)] ⟨rfl, trivial⟩ ?_
    replace hM : St ⟨w, X, S⟩ [] [rV s_aT.v (cSl 1 fI aT), rV s_aP_2.v (cSl 1 fLDPart aP.redo), rV s_aP_1.v (cSl 1 fLDPart aP.undo)] _ := hM.tk 0
    have hM := hM.fewer rsN
    exact ⟨(), rfl, hM.gives⟩
  · replace hx := xif_f hc366 hx
    refine wc_skip ?_
    refine sq_n ?_
    refine wc_seq ?_
    refine wc_region ?_
    refine wv rfl (r_assign rfl) ?_
    refine wl_nil ?_
    refine sq_n ?_
    refine wc_seq ?_
    refine wc_region ?_
    refine wv rfl (r_ldBS Try.underlying43 sz43 rfl (us := [(.int .i64 aP.n), s_aP_1.v, s_aP_2.v]) rfl hM (.head _) rfl) ?_
    refine wv rfl (r_move rfl) ?_
    obtain ⟨r371, h372, hx⟩ := bind_some' hx
    refine w_call rfl rfl (hM.callV fun X S oL hS hR hO => ct_laws_szStory _ X S aP s_aP_1 s_aP_2 (1048576 : Int) hS (hR _ (.tail _ (.tail _ (.head _)))) (hR _ (.tail _ (.head _))) oL h372) ?_
    rintro _ w373 ⟨rfl, hR374⟩
    have hM := hM.call hR374
    refine wv rfl (r_assign rfl) ?_
    refine wl_nil ?_
    refine sq_n ?_
    refine wc_seq ?_
    refine wc_seq ?_
    refine wc_region ?_
    refine wv rfl (r_move rfl) ?_
    refine wv rfl (r_lss rfl rfl) ?_
    refine wl_nil ?_
    refine sq_n ?_
    refine wc_cond rfl (fun hc378 => ?_) (fun hc378 => ?_)
    · replace hx := xif_t hc378 hx
      refine wc_seq ?_
      refine wc_region ?_
      refine wv rfl (r_assign rfl) ?_
      refine wl_nil ?_
      refine sq_n ?_
      refine wc_ret ?_
      refine sq_ret ?_
      obtain rfl := Option.some.inj hx
      refine fin_ret [(.bool true)] ⟨rfl, trivial⟩ ?_
      replace hM : St ⟨w, X, S⟩ [] [rV s_aT.v (cSl 1 fI aT), rV s_aP_2.v (cSl 1 fLDPart aP.redo), rV s_aP_1.v (cSl 1 fLDPart aP.undo)] _ := hM.tk 0
      have hM := hM.fewer rsN
      exact ⟨(), rfl, hM.gives⟩
    · replace hx := xif_f hc378 hx
      refine wc_skip ?_
      refine sq_n ?_
      refine wc_seq ?_
      refine wc_region ?_
      refine wv rfl (r_ldBS Try.underlying43 sz43 rfl (us := [(.int .i64 aP.n), s_aP_1.v, s_aP_2.v]) rfl hM (.head _) rfl) ?_
      obtain ⟨r381, h382, hx⟩ := bind_some' hx
      refine w_call rfl rfl (hM.callO (l := []) fun X S oL hS hR hO => ct_laws_toStory _ X S aP s_aP_1 s_aP_2 hS (hR _ (.tail _ (.tail _ (.head _)))) (hR _ (.tail _ (.head _))) oL h382) ?_
      rintro _ w383 ⟨⟨s384, s385⟩, rfl, hM⟩
      replace hM : St ⟨w, X, S⟩ [oC (cSl 1 fLDPart r381.undo) s384.v, oC (cSl 1 fLDPart r381.redo) s385.v, oBox b359 #[(.int .i64 aP.n), s_aP_1.v, s_aP_2.v] 43] [rV s_aT.v (cSl 1 fI aT), rV s_aP_2.v (cSl 1 fLDPart aP.redo), rV s_aP_1.v (cSl 1 fLDPart aP.undo)] _ := hM
      refine wv rfl (r_move rfl) ?_
      obtain ⟨r389, h390, hx⟩ := bind_some' hx
      refine w_call rfl rfl (hM.callO (l := []) fun X S oL hS hR hO => ct_laws_toIntS _ X S aT s_aT hS (hR _ (.head _)) oL h390) ?_
      rintro _ w391 ⟨s392, rfl, hM⟩
      replace hM : St ⟨w, X, S⟩ [oC (cSl 1 fI r389) s392.v, oC (cSl 1 fLDPart r381.undo) s384.v, oC (cSl 1 fLDPart r381.redo) s385.v, oBox b359 #[(.int .i64 aP.n), s_aP_1.v, s_aP_2.v] 43] [rV s_aT.v (cSl 1 fI aT), rV s_aP_2.v (cSl 1 fLDPart aP.redo), rV s_aP_1.v (cSl 1 fLDPart aP.undo)] _ := hM
      obtain ⟨r394, h395, hx⟩ := bind_some' hx
      refine w_call rfl rfl (hM.callO (l := []) fun X S oL hS hR hO => ct_spec_PastRedo _ X S r381 s384 s385 r389 s392 hS (seeA hO (.tail _ (.head _))) (seeA hO (.tail _ (.tail _ (.head _)))) (seeA hO (.head _)) oL h395) ?_
      rintro _ w396 ⟨⟨s397, s398, s399⟩, rfl, hM⟩
      replace hM : St ⟨w, X, S⟩ [oC (cSl 1 fLDPart r394.1.undo) s397.v, oC (cSl 1 fLDPart r394.1.redo) s398.v, oC (cSl 3 fDPart r394.2.1) s399.v, oC (cSl 1 fI r389) s392.v, oC (cSl 1 fLDPart r381.undo) s384.v, oC (cSl 1 fLDPart r381.redo) s385.v, oBox b359 #[(.int .i64 aP.n), s_aP_1.v, s_aP_2.v] 43] [rV s_aT.v (cSl 1 fI aT), rV s_aP_2.v (cSl 1 fLDPart aP.redo), rV s_aP_1.v (cSl 1 fLDPart aP.undo)] _ := hM
      refine wv rfl (r_move rfl) ?_
      refine wv rfl (r_extract rfl rfl) ?_
      refine wv rfl (r_extract rfl rfl) ?_
      refine wv rfl (r_extract rfl rfl) ?_
      refine w_ex rfl (x_alloc sz48 hM ?_); intro b408 w407 hR409 hM
      replace hM : St ⟨w, X, S⟩ [oBox b408 #[(.int .i64 0), (.slice none 0 0), (.slice none 0 0)] 48, oC (cSl 1 fLDPart r394.1.undo) s397.v, oC (cSl 1 fLDPart r394.1.redo) s398.v, oC (cSl 3 fDPart r394.2.1) s399.v, oC (cSl 1 fI r389) s392.v, oC (cSl 1 fLDPart r381.undo) s384.v, oC (cSl 1 fLDPart r381.redo) s385.v, oBox b359 #[(.int .i64 aP.n), s_aP_1.v, s_aP_2.v] 43] [rV s_aT.v (cSl 1 fI aT), rV s_aP_2.v (cSl 1 fLDPart aP.redo), rV s_aP_1.v (cSl 1 fLDPart aP.undo)] _ := hM
      refine w_exu (x_stB #[(.int .i64 r394.1.n), s397.v, s398.v] sz48 rfl rfl rfl rfl rfl rfl hM ?_); intro w411 hM
      refine wv rfl (r_assign rfl) ?_
      refine wv rfl (r_assign rfl) ?_
      refine wl_nil ?_
      refine sq_n ?_
      refine wc_seq ?_
      refine wc_region ?_
      refine wv rfl (r_ldBS Try.underlying43 sz43 rfl (us := [(.int .i64 aP.n), s_aP_1.v, s_aP_2.v]) rfl hM (.tail _ (.tail _ (.tail _ (.tail _ (.tail _ (.tail _ (.tail _ (.head _)))))))) rfl) ?_
      obtain ⟨r416, h417, hx⟩ := bind_some' hx
      refine w_call rfl rfl (hM.callO (l := []) fun X S oL hS hR hO => ct_laws_toStory _ X S aP s_aP_1 s_aP_2 hS (hR _ (.tail _ (.tail _ (.head _)))) (hR _ (.tail _ (.head _))) oL h417) ?_
      rintro _ w418 ⟨⟨s419, s420⟩, rfl, hM⟩
      replace hM : St ⟨w, X, S⟩ [oC (cSl 1 fLDPart r416.undo) s419.v, oC (cSl 1 fLDPart r416.redo) s420.v, oBox b408 #[(.int .i64 r394.1.n), s397.v, s398.v] 48, oC (cSl 1 fLDPart r394.1.undo) s397.v, oC (cSl 1 fLDPart r394.1.redo) s398.v, oC (cSl 3 fDPart r394.2.1) s399.v, oC (cSl 1 fI r389) s392.v, oC (cSl 1 fLDPart r381.undo) s384.v, oC (cSl 1 fLDPart r381.redo) s385.v, oBox b359 #[(.int .i64 aP.n), s_aP_1.v, s_aP_2.v] 43] [rV s_aT.v (cSl 1 fI aT), rV s_aP_2.v (cSl 1 fLDPart aP.redo), rV s_aP_1.v (cSl 1 fLDPart aP.undo)] _ := hM
      refine w_ex rfl (x_alloc sz48 hM ?_); intro b424 w423 hR425 hM
      replace hM : St ⟨w, X, S⟩ [oBox b424 #[(.int .i64 0), (.slice none 0 0), (.slice none 0 0)] 48, oC (cSl 1 fLDPart r416.undo) s419.v, oC (cSl 1 fLDPart r416.redo) s420.v, oBox b408 #[(.int .i64 r394.1.n), s397.v, s398.v] 48, oC (cSl 1 fLDPart r394.1.undo) s397.v, oC (cSl 1 fLDPart r394.1.redo) s398.v, oC (cSl 3 fDPart r394.2.1) s399.v, oC (cSl 1 fI r389) s392.v, oC (cSl 1 fLDPart r381.undo) s384.v, oC (cSl 1 fLDPart r381.redo) s385.v, oBox b359 #[(.int .i64 aP.n), s_aP_1.v, s_aP_2.v] 43] [rV s_aT.v (cSl 1 fI aT), rV s_aP_2.v (cSl 1 fLDPart aP.redo), rV s_aP_1.v (cSl 1 fLDPart aP.undo)] _ := hM
      refine w_exu (x_stB #[(.int .i64 r416.n), s419.v, s420.v] sz48 rfl rfl rfl rfl rfl rfl hM ?_); intro w427 hM
      refine wl_nil ?_
      refine sq_n ?_
      refine wc_seq ?_
      refine wc_region ?_
      refine wv rfl (r_move rfl) ?_
      obtain ⟨r430, h431, hx⟩ := bind_some' hx
      refine w_call rfl rfl (hM.callO (l := []) fun X S oL hS hR hO => ct_laws_toIntS _ X S aT s_aT hS (hR _ (.head _)) oL h431) ?_
      rintro _ w432 ⟨s433, rfl, hM⟩
      replace hM : St ⟨w, X, S⟩ [oC (cSl 1 fI r430) s433.v, oBox b424 #[(.int .i64 r416.n), s419.v, s420.v] 48, oC (cSl 1 fLDPart r416.undo) s419.v, oC (cSl 1 fLDPart r416.redo) s420.v, oBox b408 #[(.int .i64 r394.1.n), s397.v, s398.v] 48, oC (cSl 1 fLDPart r394.1.undo) s397.v, oC (cSl 1 fLDPart r394.1.redo) s398.v, oC (cSl 3 fDPart r394.2.1) s399.v, oC (cSl 1 fI r389) s392.v, oC (cSl 1 fLDPart r381.undo) s384.v, oC (cSl 1 fLDPart r381.redo) s385.v, oBox b359 #[(.int .i64 aP.n), s_aP_1.v, s_aP_2.v] 43] [rV s_aT.v (cSl 1 fI aT), rV s_aP_2.v (cSl 1 fLDPart aP.redo), rV s_aP_1.v (cSl 1 fLDPart aP.undo)] _ := hM
      refine wv rfl (r_assign rfl) ?_
      refine wl_nil ?_
      refine sq_n ?_
      refine wc_seq ?_
      refine wc_region ?_
      refine wv rfl (r_ldBS Try.underlying48 sz48 rfl (us := [(.int .i64 r416.n), s419.v, s420.v]) rfl hM (.tail _ (.head _)) rfl) ?_
      refine wv rfl (r_move rfl) ?_
      obtain ⟨r438, h439, hx⟩ := bind_some' hx
      refine w_call rfl rfl (hM.callO (l := []) fun X S oL hS hR hO => ct_impl_PastRedo _ X S r416 s419 s420 r430 s433 hS (seeA hO (.tail _ (.tail _ (.head _)))) (seeA hO (.tail _ (.tail _ (.tail _ (.head _))))) (seeA hO (.head _)) oL h439) ?_
      rintro _ w440 ⟨⟨s441, s442, s443⟩, rfl, hM⟩
      replace hM : St ⟨w, X, S⟩ [oC (cSl 1 fLDPart r438.1.undo) s441.v, oC (cSl 1 fLDPart r438.1.redo) s442.v, oC (cSl 3 fDPart r438.2.1) s443.v, oC (cSl 1 fI r430) s433.v, oBox b424 #[(.int .i64 r416.n), s419.v, s420.v] 48, oC (cSl 1 fLDPart r416.undo) s419.v, oC (cSl 1 fLDPart r416.redo) s420.v, oBox b408 #[(.int .i64 r394.1.n), s397.v, s398.v] 48, oC (cSl 1 fLDPart r394.1.undo) s397.v, oC (cSl 1 fLDPart r394.1.redo) s398.v, oC (cSl 3 fDPart r394.2.1) s399.v, oC (cSl 1 fI r389) s392.v, oC (cSl 1 fLDPart r381.undo) s384.v, oC (cSl 1 fLDPart r381.redo) s385.v, oBox b359 #[(.int .i64 aP.n), s_aP_1.v, s_aP_2.v] 43] [rV s_aT.v (cSl 1 fI aT), rV s_aP_2.v (cSl 1 fLDPart aP.redo), rV s_aP_1.v (cSl 1 fLDPart aP.undo)] _ := hM
      refine wv rfl (r_move rfl) ?_
      refine wv rfl (r_extract rfl rfl) ?_
      refine wv rfl (r_extract rfl rfl) ?_
      refine wv rfl (r_extract rfl rfl) ?_
      refine w_ex rfl (x_alloc sz48 hM ?_); intro b452 w451 hR453 hM
      replace hM : St ⟨w, X, S⟩ [oBox b452 #[(.int .i64 0), (.slice none 0 0), (.slice none 0 0)] 48, oC (cSl 1 fLDPart r438.1.undo) s441.v, oC (cSl 1 fLDPart r438.1.redo) s442.v, oC (cSl 3 fDPart r438.2.1) s443.v, oC (cSl 1 fI r430) s433.v, oBox b424 #[(.int .i64 r416.n), s419.v, s420.v] 48, oC (cSl 1 fLDPart r416.undo) s419.v, oC (cSl 1 fLDPart r416.redo) s420.v, oBox b408 #[(.int .i64 r394.1.n), s397.v, s398.v] 48, oC (cSl 1 fLDPart r394.1.undo) s397.v, oC (cSl 1 fLDPart r394.1.redo) s398.v, oC (cSl 3 fDPart r394.2.1) s399.v, oC (cSl 1 fI r389) s392.v, oC (cSl 1 fLDPart r381.undo) s384.v, oC (cSl 1 fLDPart r381.redo) s385.v, oBox b359 #[(.int .i64 aP.n), s_aP_1.v, s_aP_2.v] 43] [rV s_aT.v (cSl 1 fI aT), rV s_aP_2.v (cSl 1 fLDPart aP.redo), rV s_aP_1.v (cSl 1 fLDPart aP.undo)] _ := hM
      refine w_exu (x_stB #[(.int .i64 r438.1.n), s441.v, s442.v] sz48 rfl rfl rfl rfl rfl rfl hM ?_); intro w455 hM
      refine wv rfl (r_assign rfl) ?_
      refine wv rfl (r_assign rfl) ?_
      refine wl_nil ?_
      refine sq_n ?_
      refine wc_seq ?_
      refine wc_seq ?_
      refine wc_region ?_
      refine wv rfl (r_ldBS Try.underlying48 sz48 rfl (us := [(.int .i64 r438.1.n), s441.v, s442.v]) rfl hM (.head _) rfl) ?_
      refine wv rfl (r_ldBS Try.underlying48 sz48 rfl (us := [(.int .i64 r394.1.n), s397.v, s398.v]) rfl hM (.tail _ (.tail _ (.tail _ (.tail _ (.tail _ (.tail _ (.tail _ (.tail _ (.head _))))))))) rfl) ?_
      obtain ⟨r461, h462, hx⟩ := bind_some' hx
      refine w_call rfl rfl (hM.callV fun X S oL hS hR hO => ct_laws_eqStory _ X S r438.1 s441 s442 r394.1 s397 s398 hS (seeA hO (.tail _ (.head _))) (seeA hO (.tail _ (.tail _ (.head _)))) (seeA hO (.tail _ (.tail _ (.tail _ (.tail _ (.tail _ (.tail _ (.tail _ (.tail _ (.tail _ (.head _))))))))))) (seeA hO (.tail _ (.tail _ (.tail _ (.tail _ (.tail _ (.tail _ (.tail _ (.tail _ (.tail _ (.tail _ (.head _)))))))))))) oL h462) ?_
      rintro _ w463 ⟨rfl, hR464⟩
      have hM := hM.call hR464
      refine wv rfl (r_not rfl) ?_
      refine wv rfl (r_move rfl) ?_
      obtain ⟨c467, hx, hx476⟩ := bind_some' hx
      refine wl_mid 5 (fun _ : Unit => [(57, (.bool c467)), (1, s_aT.v), (2, (.pointer (some ⟨b359, 0, none⟩))), (6, (.pointer (some ⟨b408, 0, none⟩))), (7, s399.v), (8, (.bool r394.2.2)), (9, (.pointer (some ⟨b424, 0, none⟩))), (10, s433.v), (11, (.pointer (some ⟨b452, 0, none⟩))), (12, s443.v), (13, (.bool r438.2.2))]) (fun _ w' => St ⟨w, X, S⟩ [oBox b452 #[(.int .i64 r438.1.n), s441.v, s442.v] 48, oC (cSl 1 fLDPart r438.1.undo) s441.v, oC (cSl 1 fLDPart r438.1.redo) s442.v, oC (cSl 3 fDPart r438.2.1) s443.v, oC (cSl 1 fI r430) s433.v, oBox b424 #[(.int .i64 r416.n), s419.v, s420.v] 48, oC (cSl 1 fLDPart r416.undo) s419.v, oC (cSl 1 fLDPart r416.redo) s420.v, oBox b408 #[(.int .i64 r394.1.n), s397.v, s398.v] 48, oC (cSl 1 fLDPart r394.1.undo) s397.v, oC (cSl 1 fLDPart r394.1.redo) s398.v, oC (cSl 3 fDPart r394.2.1) s399.v, oC (cSl 1 fI r389) s392.v, oC (cSl 1 fLDPart r381.undo) s384.v, oC (cSl 1 fLDPart r381.redo) s385.v, oBox b359 #[(.int .i64 aP.n), s_aP_1.v, s_aP_2.v] 43] [rV s_aT.v (cSl 1 fI aT), rV s_aP_2.v (cSl 1 fLDPart aP.redo), rV s_aP_1.v (cSl 1 fLDPart aP.undo)] w') ?_ ?_
      · rcases Bool.eq_false_or_eq_true (!r461) with hg468 | hg468
        · replace hx := xif_t hg468 hx
          refine gs rfl (isB_no hg468) rfl ?_
          refine gs rfl (isB_no hg468) rfl ?_
          refine gs rfl (isB_no hg468) rfl ?_
          refine gs rfl (isB_no hg468) rfl ?_
          refine wv rfl (p_t rfl hg468 rfl) ?_
          obtain rfl := Option.some.inj hx
          exact mid_nil () ⟨rfl, rfl, rfl, rfl, rfl, rfl, rfl, rfl, rfl, rfl, rfl, trivial⟩ hM
        · replace hx := xif_f hg468 hx
          refine gv rfl hg468 rfl (r_move rfl) ?_
          refine gv rfl hg468 rfl (r_move rfl) ?_
          obtain ⟨r479, h480, hx⟩ := bind_some' hx
          refine gc rfl hg468 rfl rfl (hM.callV fun X S oL hS hR hO => ct_laws_eqPartS _ X S r438.2.1 s443 r394.2.1 s399 hS (seeA hO (.tail _ (.tail _ (.tail _ (.head _))))) (seeA hO (.tail _ (.tail _ (.tail _ (.tail _ (.tail _ (.tail _ (.tail _ (.tail _ (.tail _ (.tail _ (.tail _ (.head _))))))))))))) oL h480) ?_
          rintro _ w481 ⟨rfl, hR482⟩
          have hM := hM.call hR482
          refine gv rfl hg468 rfl (r_not rfl) ?_
          refine wv rfl (p_f rfl hg468 rfl) ?_
          obtain rfl := Option.some.inj hx
          exact mid_nil () ⟨rfl, rfl, rfl, rfl, rfl, rfl, rfl, rfl, rfl, rfl, rfl, trivial⟩ hM
      rintro _ w484 hM
      replace hx := hx476
      refine wv rfl (r_move rfl) ?_
      obtain ⟨c486, hx, hx491⟩ := bind_some' hx
      refine wl_mid 4 (fun _ : Unit => [(62, (.bool c486)), (1, s_aT.v), (2, (.pointer (some ⟨b359, 0, none⟩))), (6, (.pointer (some ⟨b408, 0, none⟩))), (7, s399.v), (8, (.bool r394.2.2)), (9, (.pointer (some ⟨b424, 0, none⟩))), (10, s433.v), (11, (.pointer (some ⟨b452, 0, none⟩))), (12, s443.v), (13, (.bool r438.2.2))]) (fun _ w' => St ⟨w, X, S⟩ [oBox b452 #[(.int .i64 r438.1.n), s441.v, s442.v] 48, oC (cSl 1 fLDPart r438.1.undo) s441.v, oC (cSl 1 fLDPart r438.1.redo) s442.v, oC (cSl 3 fDPart r438.2.1) s443.v, oC (cSl 1 fI r430) s433.v, oBox b424 #[(.int .i64 r416.n), s419.v, s420.v] 48, oC (cSl 1 fLDPart r416.undo) s419.v, oC (cSl 1 fLDPart r416.redo) s420.v, oBox b408 #[(.int .i64 r394.1.n), s397.v, s398.v] 48, oC (cSl 1 fLDPart r394.1.undo) s397.v, oC (cSl 1 fLDPart r394.1.redo) s398.v, oC (cSl 3 fDPart r394.2.1) s399.v, oC (cSl 1 fI r389) s392.v, oC (cSl 1 fLDPart r381.undo) s384.v, oC (cSl 1 fLDPart r381.redo) s385.v, oBox b359 #[(.int .i64 aP.n), s_aP_1.v, s_aP_2.v] 43] [rV s_aT.v (cSl 1 fI aT), rV s_aP_2.v (cSl 1 fLDPart aP.redo), rV s_aP_1.v (cSl 1 fLDPart aP.undo)] w') ?_ ?_
      · rcases Bool.eq_false_or_eq_true c467 with hg487 | hg487
        · replace hx := xif_t hg487 hx
          refine gs rfl (isB_no hg487) rfl ?_
          refine gs rfl (isB_no hg487) rfl ?_
          refine gs rfl (isB_no hg487) rfl ?_
          refine wv rfl (p_t rfl hg487 rfl) ?_
          obtain rfl := Option.some.inj hx
          exact mid_nil () ⟨rfl, rfl, rfl, rfl, rfl, rfl, rfl, rfl, rfl, rfl, rfl, trivial⟩ hM
        · replace hx := xif_f hg487 hx
          refine gv rfl hg487 rfl (r_move rfl) ?_
          refine gv rfl hg487 rfl (r_move rfl) ?_
          refine gv rfl hg487 rfl (r_neqb Try.underlying4 rfl rfl) ?_
          refine wv rfl (p_f rfl hg487 rfl) ?_
          obtain rfl := Option.some.inj hx
          exact mid_nil () ⟨rfl, rfl, rfl, rfl, rfl, rfl, rfl, rfl, rfl, rfl, rfl, trivial⟩ hM
      rintro _ w495 hM
      replace hx := hx491
      refine wl_nil ?_
      refine sq_n ?_
      refine wc_cond rfl (fun hc496 => ?_) (fun hc496 => ?_)
      · replace hx := xif_t hc496 hx
        refine wc_seq ?_
        refine wc_region ?_
        refine wv rfl (r_assign rfl) ?_
        refine wl_nil ?_
        refine sq_n ?_
        refine wc_ret ?_
        refine sq_ret ?_
        obtain rfl := Option.some.inj hx
        refine fin_ret [(.bool false)] ⟨rfl, trivial⟩ ?_
        replace hM : St ⟨w, X, S⟩ [] [rV s_aT.v (cSl 1 fI aT), rV s_aP_2.v (cSl 1 fLDPart aP.redo), rV s_aP_1.v (cSl 1 fLDPart aP.undo)] _ := hM.tk 0
        have hM := hM.fewer rsN
        exact ⟨(), rfl, hM.gives⟩
      · replace hx := xif_f hc496 hx
        refine wc_skip ?_
        refine sq_n ?_
        refine wc_seq ?_
        refine wc_seq ?_
        refine wc_draw [(0, 0), (1, 0), (2, 1), (3, 0), (4, 0)] Try_mixed (by kernel_rfl) rfl (by kernel_rfl) rfl ?_
        refine ov rfl (fun w' h' => r_ldBS Try.underlying48 sz48 rfl (us := [(.int .i64 r416.n), s419.v, s420.v]) rfl (hM.call h') (.tail _ (.tail _ (.tail _ (.tail _ (.tail _ (.head _)))))) rfl) ?_
        refine ov rfl (fun w' h' => r_ldBS Try.underlying43 sz43 rfl (us := [(.int .i64 aP.n), s_aP_1.v, s_aP_2.v]) rfl (hM.call h') (.tail _ (.tail _ (.tail _ (.tail _ (.tail _ (.tail _ (.tail _ (.tail _ (.tail _ (.tail _ (.tail _ (.tail _ (.tail _ (.tail _ (.tail _ (.head _)))))))))))))))) rfl) ?_
        obtain ⟨r500, h501, hx⟩ := bind_some' hx
        refine o_forced rfl rfl (fun w' h' => (hM.call h').callF fun X S oL hS hR hO => ct_laws_toStory _ X S aP s_aP_1 s_aP_2 hS (hR _ (.tail _ (.tail _ (.head _)))) (hR _ (.tail _ (.head _))) oL h501) ?_
        rintro w505 h506 _ w502 ⟨hR507, ⟨s503, s504⟩, rfl, hM⟩
        refine ⟨hR507, ?_⟩
        replace hM : St ⟨w, X, S⟩ [oC (cSl 1 fLDPart r500.undo) s503.v, oC (cSl 1 fLDPart r500.redo) s504.v, oBox b452 #[(.int .i64 r438.1.n), s441.v, s442.v] 48, oC (cSl 1 fLDPart r438.1.undo) s441.v, oC (cSl 1 fLDPart r438.1.redo) s442.v, oC (cSl 3 fDPart r438.2.1) s443.v, oC (cSl 1 fI r430) s433.v, oBox b424 #[(.int .i64 r416.n), s419.v, s420.v] 48, oC (cSl 1 fLDPart r416.undo) s419.v, oC (cSl 1 fLDPart r416.redo) s420.v, oBox b408 #[(.int .i64 r394.1.n), s397.v, s398.v] 48, oC (cSl 1 fLDPart r394.1.undo) s397.v, oC (cSl 1 fLDPart r394.1.redo) s398.v, oC (cSl 3 fDPart r394.2.1) s399.v, oC (cSl 1 fI r389) s392.v, oC (cSl 1 fLDPart r381.undo) s384.v, oC (cSl 1 fLDPart r381.redo) s385.v, oBox b359 #[(.int .i64 aP.n), s_aP_1.v, s_aP_2.v] 43] [rV s_aT.v (cSl 1 fI aT), rV s_aP_2.v (cSl 1 fLDPart aP.redo), rV s_aP_1.v (cSl 1 fLDPart aP.undo)] _ := hM
        obtain ⟨r510, h511, hx⟩ := bind_some' hx
        refine oc rfl rfl (fun w' h' => (hM.call h').callV fun X S oL hS hR hO => ct_laws_eqStory _ X S r416 s419 s420 r500 s503 s504 hS (seeA hO (.tail _ (.tail _ (.tail _ (.tail _ (.tail _ (.tail _ (.tail _ (.tail _ (.head _)))))))))) (seeA hO (.tail _ (.tail _ (.tail _ (.tail _ (.tail _ (.tail _ (.tail _ (.tail _ (.tail _ (.head _))))))))))) (seeA hO (.head _)) (seeA hO (.tail _ (.head _))) oL h511) ?_
        refine ov rfl (fun w' h' => r_not rfl) ?_
        refine o_nil fun w514 hw515 => ?_
        have hM := hM.call hw515
        refine sq_n ?_
        refine wc_cond rfl (fun hc516 => ?_) (fun hc516 => ?_)
        · replace hx := xif_t hc516 hx
          refine wc_seq ?_
          refine wc_region ?_
          refine wv rfl (r_assign rfl) ?_
          refine wl_nil ?_
          refine sq_n ?_
          refine wc_ret ?_
          refine sq_ret ?_
          obtain rfl := Option.some.inj hx
          refine fin_ret [(.bool false)] ⟨rfl, trivial⟩ ?_
          replace hM : St ⟨w, X, S⟩ [] [rV s_aT.v (cSl 1 fI aT), rV s_aP_2.v (cSl 1 fLDPart aP.redo), rV s_aP_1.v (cSl 1 fLDPart aP.undo)] _ := hM.tk 0
          have hM := hM.fewer rsN
          exact ⟨(), rfl, hM.gives⟩
        · replace hx := xif_f hc516 hx
          refine wc_skip ?_
          refine sq_n ?_
          refine wc_seq ?_
          refine wc_seq ?_
          refine wc_region ?_
          refine wv rfl (r_move rfl) ?_
          refine wv rfl (r_move rfl) ?_
          obtain ⟨r520, h521, hx⟩ := bind_some' hx
          refine w_call rfl rfl (hM.callO (l := []) fun X S oL hS hR hO => ct_laws_toIntS _ X S aT s_aT hS (hR _ (.head _)) oL h521) ?_
          rintro _ w522 ⟨s523, rfl, hM⟩
          replace hM : St ⟨w, X, S⟩ [oC (cSl 1 fI r520) s523.v, oC (cSl 1 fLDPart r500.undo) s503.v, oC (cSl 1 fLDPart r500.redo) s504.v, oBox b452 #[(.int .i64 r438.1.n), s441.v, s442.v] 48, oC (cSl 1 fLDPart r438.1.undo) s441.v, oC (cSl 1 fLDPart r438.1.redo) s442.v, oC (cSl 3 fDPart r438.2.1) s443.v, oC (cSl 1 fI r430) s433.v, oBox b424 #[(.int .i64 r416.n), s419.v, s420.v] 48, oC (cSl 1 fLDPart r416.undo) s419.v, oC (cSl 1 fLDPart r416.redo) s420.v, oBox b408 #[(.int .i64 r394.1.n), s397.v, s398.v] 48, oC (cSl 1 fLDPart r394.1.undo) s397.v, oC (cSl 1 fLDPart r394.1.redo) s398.v, oC (cSl 3 fDPart r394.2.1) s399.v, oC (cSl 1 fI r389) s392.v, oC (cSl 1 fLDPart r381.undo) s384.v, oC (cSl 1 fLDPart r381.redo) s385.v, oBox b359 #[(.int .i64 aP.n), s_aP_1.v, s_aP_2.v] 43] [rV s_aT.v (cSl 1 fI aT), rV s_aP_2.v (cSl 1 fLDPart aP.redo), rV s_aP_1.v (cSl 1 fLDPart aP.undo)] _ := hM
          obtain ⟨r525, h526, hx⟩ := bind_some' hx
          refine w_call rfl rfl (hM.callV fun X S oL hS hR hO => ct_laws_eqIntS _ X S r430 s433 r520 s523 hS (seeA hO (.tail _ (.tail _ (.tail _ (.tail _ (.tail _ (.tail _ (.tail _ (.head _))))))))) (seeA hO (.head _)) oL h526) ?_
          rintro _ w527 ⟨rfl, hR528⟩
          have hM := hM.call hR528
          refine wv rfl (r_not rfl) ?_
          refine wl_nil ?_
          refine sq_n ?_
          refine wc_cond rfl (fun hc530 => ?_) (fun hc530 => ?_)
          · replace hx := xif_t hc530 hx
            refine wc_seq ?_
            refine wc_region ?_
            refine wv rfl (r_assign rfl) ?_
            refine wl_nil ?_
            refine sq_n ?_
            refine wc_ret ?_
            refine sq_ret ?_
            obtain rfl := Option.some.inj hx
            refine fin_ret [(.bool false)] ⟨rfl, trivial⟩ ?_
            replace hM : St ⟨w, X, S⟩ [] [rV s_aT.v (cSl 1 fI aT), rV s_aP_2.v (cSl 1 fLDPart aP.redo), rV s_aP_1.v (cSl 1 fLDPart aP.undo)] _ := hM.tk 0
            have hM := hM.fewer rsN
            exact ⟨(), rfl, hM.gives⟩
          · replace hx := xif_f hc530 hx
            refine wc_skip ?_
            refine sq_n ?_
            refine wc_seq ?_
            refine wc_region ?_
            refine wv rfl (r_assign rfl) ?_
            refine wl_nil ?_
            refine sq_n ?_
            refine wc_seq ?_
            refine wc_region ?_
            refine wv rfl (r_ldBS Try.underlying48 sz48 rfl (us := [(.int .i64 r416.n), s419.v, s420.v]) rfl hM (.tail _ (.tail _ (.tail _ (.tail _ (.tail _ (.tail _ (.tail _ (.tail _ (.head _))))))))) rfl) ?_
            refine wv rfl (r_move rfl) ?_
            replace hM : St ⟨w, X, S⟩ [oC (cSl 1 fLDPart r416.undo) s419.v, oC (cSl 1 fLDPart r416.redo) s420.v, oC (cSl 1 fI r520) s523.v, oC (cSl 1 fLDPart r500.undo) s503.v, oC (cSl 1 fLDPart r500.redo) s504.v, oBox b452 #[(.int .i64 r438.1.n), s441.v, s442.v] 48, oC (cSl 1 fLDPart r438.1.undo) s441.v, oC (cSl 1 fLDPart r438.1.redo) s442.v, oC (cSl 3 fDPart r438.2.1) s443.v, oC (cSl 1 fI r430) s433.v, oBox b424 #[(.int .i64 r416.n), s419.v, s420.v] 48, oBox b408 #[(.int .i64 r394.1.n), s397.v, s398.v] 48, oC (cSl 1 fLDPart r394.1.undo) s397.v, oC (cSl 1 fLDPart r394.1.redo) s398.v, oC (cSl 3 fDPart r394.2.1) s399.v, oC (cSl 1 fI r389) s392.v, oC (cSl 1 fLDPart r381.undo) s384.v, oC (cSl 1 fLDPart r381.redo) s385.v, oBox b359 #[(.int .i64 aP.n), s_aP_1.v, s_aP_2.v] 43] [rV s_aT.v (cSl 1 fI aT), rV s_aP_2.v (cSl 1 fLDPart aP.redo), rV s_aP_1.v (cSl 1 fLDPart aP.undo)] _ := hM.pl [10, 10]
            obtain ⟨r535, h536, hx⟩ := bind_some' hx
            refine w_call rfl rfl (hM.callO (l := [oC (cSl 1 fLDPart r416.undo) s419.v, oC (cSl 1 fLDPart r416.redo) s420.v]) fun X S oL hS hR hO => ct_laws_markStory _ X S r416 s419 s420 (1 : Int) hS  oL h536) ?_
            rintro _ w537 ⟨_, rfl, hM⟩
            replace hM : St ⟨w, X, S⟩ [oC (cSl 1 fLDPart r535.2.undo) s419.v, oC (cSl 1 fLDPart r535.2.redo) s420.v, oC (cSl 1 fI r520) s523.v, oC (cSl 1 fLDPart r500.undo) s503.v, oC (cSl 1 fLDPart r500.redo) s504.v, oBox b452 #[(.int .i64 r438.1.n), s441.v, s442.v] 48, oC (cSl 1 fLDPart r438.1.undo) s441.v, oC (cSl 1 fLDPart r438.1.redo) s442.v, oC (cSl 3 fDPart r438.2.1) s443.v, oC (cSl 1 fI r430) s433.v, oBox b424 #[(.int .i64 r416.n), s419.v, s420.v] 48, oBox b408 #[(.int .i64 r394.1.n), s397.v, s398.v] 48, oC (cSl 1 fLDPart r394.1.undo) s397.v, oC (cSl 1 fLDPart r394.1.redo) s398.v, oC (cSl 3 fDPart r394.2.1) s399.v, oC (cSl 1 fI r389) s392.v, oC (cSl 1 fLDPart r381.undo) s384.v, oC (cSl 1 fLDPart r381.redo) s385.v, oBox b359 #[(.int .i64 aP.n), s_aP_1.v, s_aP_2.v] 43] [rV s_aT.v (cSl 1 fI aT), rV s_aP_2.v (cSl 1 fLDPart aP.redo), rV s_aP_1.v (cSl 1 fLDPart aP.undo)] _ := hM
            refine wv rfl (r_assign rfl) ?_
            refine wl_nil ?_
            refine sq_n ?_
            refine wc_seq ?_
            refine wc_region ?_
            refine wv rfl (r_move rfl) ?_
            refine wv rfl (r_move rfl) ?_
            replace hM : St ⟨w, X, S⟩ [oC (cSl 1 fI r430) s433.v, oC (cSl 1 fLDPart r535.2.undo) s419.v, oC (cSl 1 fLDPart r535.2.redo) s420.v, oC (cSl 1 fI r520) s523.v, oC (cSl 1 fLDPart r500.undo) s503.v, oC (cSl 1 fLDPart r500.redo) s504.v, oBox b452 #[(.int .i64 r438.1.n), s441.v, s442.v] 48, oC (cSl 1 fLDPart r438.1.undo) s441.v, oC (cSl 1 fLDPart r438.1.redo) s442.v, oC (cSl 3 fDPart r438.2.1) s443.v, oBox b424 #[(.int .i64 r416.n), s419.v, s420.v] 48, oBox b408 #[(.int .i64 r394.1.n), s397.v, s398.v] 48, oC (cSl 1 fLDPart r394.1.undo) s397.v, oC (cSl 1 fLDPart r394.1.redo) s398.v, oC (cSl 3 fDPart r394.2.1) s399.v, oC (cSl 1 fI r389) s392.v, oC (cSl 1 fLDPart r381.undo) s384.v, oC (cSl 1 fLDPart r381.redo) s385.v, oBox b359 #[(.int .i64 aP.n), s_aP_1.v, s_aP_2.v] 43] [rV s_aT.v (cSl 1 fI aT), rV s_aP_2.v (cSl 1 fLDPart aP.redo), rV s_aP_1.v (cSl 1 fLDPart aP.undo)] _ := hM.pl [9]
            obtain ⟨r541, h542, hx⟩ := bind_some' hx
            refine w_call rfl rfl (hM.callO (l := [oC (cSl 1 fI r430) s433.v]) fun X S oL hS hR hO => ct_laws_markIntS _ X S r430 s433 r535.1 hS  oL h542) ?_
            rintro _ w543 ⟨_, rfl, hM⟩
            replace hM : St ⟨w, X, S⟩ [oC (cSl 1 fI r541.2) s433.v, oC (cSl 1 fLDPart r535.2.undo) s419.v, oC (cSl 1 fLDPart r535.2.redo) s420.v, oC (cSl 1 fI r520) s523.v, oC (cSl 1 fLDPart r500.undo) s503.v, oC (cSl 1 fLDPart r500.redo) s504.v, oBox b452 #[(.int .i64 r438.1.n), s441.v, s442.v] 48, oC (cSl 1 fLDPart r438.1.undo) s441.v, oC (cSl 1 fLDPart r438.1.redo) s442.v, oC (cSl 3 fDPart r438.2.1) s443.v, oBox b424 #[(.int .i64 r416.n), s419.v, s420.v] 48, oBox b408 #[(.int .i64 r394.1.n), s397.v, s398.v] 48, oC (cSl 1 fLDPart r394.1.undo) s397.v, oC (cSl 1 fLDPart r394.1.redo) s398.v, oC (cSl 3 fDPart r394.2.1) s399.v, oC (cSl 1 fI r389) s392.v, oC (cSl 1 fLDPart r381.undo) s384.v, oC (cSl 1 fLDPart r381.redo) s385.v, oBox b359 #[(.int .i64 aP.n), s_aP_1.v, s_aP_2.v] 43] [rV s_aT.v (cSl 1 fI aT), rV s_aP_2.v (cSl 1 fLDPart aP.redo), rV s_aP_1.v (cSl 1 fLDPart aP.undo)] _ := hM
            refine wv rfl (r_assign rfl) ?_
            refine wl_nil ?_
            refine sq_n ?_
            refine wc_seq ?_
            refine wc_seq ?_
            refine wc_region ?_
            refine wv rfl (r_move rfl) ?_
            refine wv rfl (r_lss rfl rfl) ?_
            refine wv rfl (r_move rfl) ?_
            obtain ⟨c548, hx, hx557⟩ := bind_some' hx
            refine wl_mid 5 (fun _ : Unit => [(86, (.bool c548)), (1, s_aT.v), (2, (.pointer (some ⟨b359, 0, none⟩))), (6, (.pointer (some ⟨b408, 0, none⟩))), (7, s399.v), (8, (.bool r394.2.2)), (11, (.pointer (some ⟨b452, 0, none⟩))), (12, s443.v), (13, (.bool r438.2.2))]) (fun _ w' => St ⟨w, X, S⟩ [oC (cSl 1 fI r541.2) s433.v, oC (cSl 1 fLDPart r535.2.undo) s419.v, oC (cSl 1 fLDPart r535.2.redo) s420.v, oC (cSl 1 fI r520) s523.v, oC (cSl 1 fLDPart r500.undo) s503.v, oC (cSl 1 fLDPart r500.redo) s504.v, oBox b452 #[(.int .i64 r438.1.n), s441.v, s442.v] 48, oC (cSl 1 fLDPart r438.1.undo) s441.v, oC (cSl 1 fLDPart r438.1.redo) s442.v, oC (cSl 3 fDPart r438.2.1) s443.v, oBox b424 #[(.int .i64 r416.n), s419.v, s420.v] 48, oBox b408 #[(.int .i64 r394.1.n), s397.v, s398.v] 48, oC (cSl 1 fLDPart r394.1.undo) s397.v, oC (cSl 1 fLDPart r394.1.redo) s398.v, oC (cSl 3 fDPart r394.2.1) s399.v, oC (cSl 1 fI r389) s392.v, oC (cSl 1 fLDPart r381.undo) s384.v, oC (cSl 1 fLDPart r381.redo) s385.v, oBox b359 #[(.int .i64 aP.n), s_aP_1.v, s_aP_2.v] 43] [rV s_aT.v (cSl 1 fI aT), rV s_aP_2.v (cSl 1 fLDPart aP.redo), rV s_aP_1.v (cSl 1 fLDPart aP.undo)] w') ?_ ?_
            · rcases Bool.eq_false_or_eq_true (decide (r541.1 < 0)) with hg549 | hg549
              · replace hx := xif_t hg549 hx
                refine gs rfl (isB_no hg549) rfl ?_
                refine gs rfl (isB_no hg549) rfl ?_
                refine gs rfl (isB_no hg549) rfl ?_
                refine gs rfl (isB_no hg549) rfl ?_
                refine wv rfl (p_t rfl hg549 rfl) ?_
                obtain rfl := Option.some.inj hx
                exact mid_nil () ⟨rfl, rfl, rfl, rfl, rfl, rfl, rfl, rfl, rfl, trivial⟩ hM
              · replace hx := xif_f hg549 hx
                refine gv rfl hg549 rfl (r_ldBS Try.underlying48 sz48 rfl (us := [(.int .i64 r438.1.n), s441.v, s442.v]) rfl hM (.tail _ (.tail _ (.tail _ (.tail _ (.tail _ (.tail _ (.head _))))))) rfl) ?_
                refine gv rfl hg549 rfl (r_ldBS Try.underlying48 sz48 rfl (us := [(.int .i64 r394.1.n), s397.v, s398.v]) rfl hM (.tail _ (.tail _ (.tail _ (.tail _ (.tail _ (.tail _ (.tail _ (.tail _ (.tail _ (.tail _ (.tail _ (.head _)))))))))))) rfl) ?_
                obtain ⟨r560, h561, hx⟩ := bind_some' hx
                refine gc rfl hg549 rfl rfl (hM.callV fun X S oL hS hR hO => ct_laws_eqStory _ X S r438.1 s441 s442 r394.1 s397 s398 hS (seeA hO (.tail _ (.tail _ (.tail _ (.tail _ (.tail _ (.tail _ (.tail _ (.head _))))))))) (seeA hO (.tail _ (.tail _ (.tail _ (.tail _ (.tail _ (.tail _ (.tail _ (.tail _ (.head _)))))))))) (seeA hO (.tail _ (.tail _ (.tail _ (.tail _ (.tail _ (.tail _ (.tail _ (.tail _ (.tail _ (.tail _ (.tail _ (.tail _ (.head _)))))))))))))) (seeA hO (.tail _ (.tail _ (.tail _ (.tail _ (.tail _ (.tail _ (.tail _ (.tail _ (.tail _ (.tail _ (.tail _ (.tail _ (.tail _ (.head _))))))))))))))) oL h561) ?_
                rintro _ w562 ⟨rfl, hR563⟩
                have hM := hM.call hR563
                refine gv rfl hg549 rfl (r_not rfl) ?_
                refine wv rfl (p_f rfl hg549 rfl) ?_
                obtain rfl := Option.some.inj hx
                exact mid_nil () ⟨rfl, rfl, rfl, rfl, rfl, rfl, rfl, rfl, rfl, trivial⟩ hM
            rintro _ w565 hM
            replace hx := hx557
            refine wv rfl (r_move rfl) ?_
            obtain ⟨c567, hx, hx576⟩ := bind_some' hx
            refine wl_mid 5 (fun _ : Unit => [(92, (.bool c567)), (1, s_aT.v), (2, (.pointer (some ⟨b359, 0, none⟩))), (6, (.pointer (some ⟨b408, 0, none⟩))), (7, s399.v), (8, (.bool r394.2.2)), (11, (.pointer (some ⟨b452, 0, none⟩))), (12, s443.v), (13, (.bool r438.2.2))]) (fun _ w' => St ⟨w, X, S⟩ [oC (cSl 1 fI r541.2) s433.v, oC (cSl 1 fLDPart r535.2.undo) s419.v, oC (cSl 1 fLDPart r535.2.redo) s420.v, oC (cSl 1 fI r520) s523.v, oC (cSl 1 fLDPart r500.undo) s503.v, oC (cSl 1 fLDPart r500.redo) s504.v, oBox b452 #[(.int .i64 r438.1.n), s441.v, s442.v] 48, oC (cSl 1 fLDPart r438.1.undo) s441.v, oC (cSl 1 fLDPart r438.1.redo) s442.v, oC (cSl 3 fDPart r438.2.1) s443.v, oBox b424 #[(.int .i64 r416.n), s419.v, s420.v] 48, oBox b408 #[(.int .i64 r394.1.n), s397.v, s398.v] 48, oC (cSl 1 fLDPart r394.1.undo) s397.v, oC (cSl 1 fLDPart r394.1.redo) s398.v, oC (cSl 3 fDPart r394.2.1) s399.v, oC (cSl 1 fI r389) s392.v, oC (cSl 1 fLDPart r381.undo) s384.v, oC (cSl 1 fLDPart r381.redo) s385.v, oBox b359 #[(.int .i64 aP.n), s_aP_1.v, s_aP_2.v] 43] [rV s_aT.v (cSl 1 fI aT), rV s_aP_2.v (cSl 1 fLDPart aP.redo), rV s_aP_1.v (cSl 1 fLDPart aP.undo)] w') ?_ ?_
            · rcases Bool.eq_false_or_eq_true c548 with hg568 | hg568
              · replace hx := xif_t hg568 hx
                refine gs rfl (isB_no hg568) rfl ?_
                refine gs rfl (isB_no hg568) rfl ?_
                refine gs rfl (isB_no hg568) rfl ?_
                refine gs rfl (isB_no hg568) rfl ?_
                refine wv rfl (p_t rfl hg568 rfl) ?_
                obtain rfl := Option.some.inj hx
                exact mid_nil () ⟨rfl, rfl, rfl, rfl, rfl, rfl, rfl, rfl, rfl, trivial⟩ hM
              · replace hx := xif_f hg568 hx
                refine gv rfl hg568 rfl (r_move rfl) ?_
                refine gv rfl hg568 rfl (r_move rfl) ?_
                obtain ⟨r579, h580, hx⟩ := bind_some' hx
                refine gc rfl hg568 rfl rfl (hM.callV fun X S oL hS hR hO => ct_laws_eqPartS _ X S r438.2.1 s443 r394.2.1 s399 hS (seeA hO (.tail _ (.tail _ (.tail _ (.tail _ (.tail _ (.tail _ (.tail _ (.tail _ (.tail _ (.head _))))))))))) (seeA hO (.tail _ (.tail _ (.tail _ (.tail _ (.tail _ (.tail _ (.tail _ (.tail _ (.tail _ (.tail _ (.tail _ (.tail _ (.tail _ (.tail _ (.head _)))))))))))))))) oL h580) ?_
                rintro _ w581 ⟨rfl, hR582⟩
                have hM := hM.call hR582
                refine gv rfl hg568 rfl (r_not rfl) ?_
                refine wv rfl (p_f rfl hg568 rfl) ?_
                obtain rfl := Option.some.inj hx
                exact mid_nil () ⟨rfl, rfl, rfl, rfl, rfl, rfl, rfl, rfl, rfl, trivial⟩ hM
            rintro _ w584 hM
            replace hx := hx576
            refine wv rfl (r_move rfl) ?_
            obtain ⟨c586, hx, hx591⟩ := bind_some' hx
            refine wl_mid 4 (fun _ : Unit => [(97, (.bool c586)), (1, s_aT.v), (2, (.pointer (some ⟨b359, 0, none⟩))), (6, (.pointer (some ⟨b408, 0, none⟩))), (7, s399.v), (8, (.bool r394.2.2)), (11, (.pointer (some ⟨b452, 0, none⟩))), (12, s443.v)]) (fun _ w' => St ⟨w, X, S⟩ [oC (cSl 1 fI r541.2) s433.v, oC (cSl 1 fLDPart r535.2.undo) s419.v, oC (cSl 1 fLDPart r535.2.redo) s420.v, oC (cSl 1 fI r520) s523.v, oC (cSl 1 fLDPart r500.undo) s503.v, oC (cSl 1 fLDPart r500.redo) s504.v, oBox b452 #[(.int .i64 r438.1.n), s441.v, s442.v] 48, oC (cSl 1 fLDPart r438.1.undo) s441.v, oC (cSl 1 fLDPart r438.1.redo) s442.v, oC (cSl 3 fDPart r438.2.1) s443.v, oBox b424 #[(.int .i64 r416.n), s419.v, s420.v] 48, oBox b408 #[(.int .i64 r394.1.n), s397.v, s398.v] 48, oC (cSl 1 fLDPart r394.1.undo) s397.v, oC (cSl 1 fLDPart r394.1.redo) s398.v, oC (cSl 3 fDPart r394.2.1) s399.v, oC (cSl 1 fI r389) s392.v, oC (cSl 1 fLDPart r381.undo) s384.v, oC (cSl 1 fLDPart r381.redo) s385.v, oBox b359 #[(.int .i64 aP.n), s_aP_1.v, s_aP_2.v] 43] [rV s_aT.v (cSl 1 fI aT), rV s_aP_2.v (cSl 1 fLDPart aP.redo), rV s_aP_1.v (cSl 1 fLDPart aP.undo)] w') ?_ ?_
            · rcases Bool.eq_false_or_eq_true c567 with hg587 | hg587
              · replace hx := xif_t hg587 hx
                refine gs rfl (isB_no hg587) rfl ?_
                refine gs rfl (isB_no hg587) rfl ?_
                refine gs rfl (isB_no hg587) rfl ?_
                refine wv rfl (p_t rfl hg587 rfl) ?_
                obtain rfl := Option.some.inj hx
                exact mid_nil () ⟨rfl, rfl, rfl, rfl, rfl, rfl, rfl, rfl, trivial⟩ hM
              · replace hx := xif_f hg587 hx
                refine gv rfl hg587 rfl (r_move rfl) ?_
                refine gv rfl hg587 rfl (r_move rfl) ?_
                refine gv rfl hg587 rfl (r_neqb Try.underlying4 rfl rfl) ?_
                refine wv rfl (p_f rfl hg587 rfl) ?_
                obtain rfl := Option.some.inj hx
                exact mid_nil () ⟨rfl, rfl, rfl, rfl, rfl, rfl, rfl, rfl, trivial⟩ hM
            rintro _ w595 hM
            replace hx := hx591
            refine wl_nil ?_
            refine sq_n ?_
            refine wc_cond rfl (fun hc596 => ?_) (fun hc596 => ?_)
            · replace hx := xif_t hc596 hx
              refine wc_seq ?_
              refine wc_region ?_
              refine wv rfl (r_assign rfl) ?_
              refine wl_nil ?_
              refine sq_n ?_
              refine wc_ret ?_
              refine sq_ret ?_
              obtain rfl := Option.some.inj hx
              refine fin_ret [(.bool false)] ⟨rfl, trivial⟩ ?_
              replace hM : St ⟨w, X, S⟩ [] [rV s_aT.v (cSl 1 fI aT), rV s_aP_2.v (cSl 1 fLDPart aP.redo), rV s_aP_1.v (cSl 1 fLDPart aP.undo)] _ := hM.tk 0
              have hM := hM.fewer rsN
              exact ⟨(), rfl, hM.gives⟩
            · replace hx := xif_f hc596 hx
              refine wc_skip ?_
              refine sq_n ?_
              refine wc_seq ?_
              refine wc_region ?_
              refine wv rfl (r_assign rfl) ?_
              refine wl_nil ?_
              refine sq_n ?_
              refine wc_seq ?_
              refine wc_region ?_
              refine wv rfl (r_ldBS Try.underlying48 sz48 rfl (us := [(.int .i64 r438.1.n), s441.v, s442.v]) rfl hM (.tail _ (.tail _ (.tail _ (.tail _ (.tail _ (.tail _ (.head _))))))) rfl) ?_
              refine wv rfl (r_move rfl) ?_
              replace hM : St ⟨w, X, S⟩ [oC (cSl 1 fLDPart r438.1.undo) s441.v, oC (cSl 1 fLDPart r438.1.redo) s442.v, oC (cSl 1 fI r541.2) s433.v, oC (cSl 1 fLDPart r535.2.undo) s419.v, oC (cSl 1 fLDPart r535.2.redo) s420.v, oC (cSl 1 fI r520) s523.v, oC (cSl 1 fLDPart r500.undo) s503.v, oC (cSl 1 fLDPart r500.redo) s504.v, oBox b452 #[(.int .i64 r438.1.n), s441.v, s442.v] 48, oC (cSl 3 fDPart r438.2.1) s443.v, oBox b424 #[(.int .i64 r416.n), s419.v, s420.v] 48, oBox b408 #[(.int .i64 r394.1.n), s397.v, s398.v] 48, oC (cSl 1 fLDPart r394.1.undo) s397.v, oC (cSl 1 fLDPart r394.1.redo) s398.v, oC (cSl 3 fDPart r394.2.1) s399.v, oC (cSl 1 fI r389) s392.v, oC (cSl 1 fLDPart r381.undo) s384.v, oC (cSl 1 fLDPart r381.redo) s385.v, oBox b359 #[(.int .i64 aP.n), s_aP_1.v, s_aP_2.v] 43] [rV s_aT.v (cSl 1 fI aT), rV s_aP_2.v (cSl 1 fLDPart aP.redo), rV s_aP_1.v (cSl 1 fLDPart aP.undo)] _ := hM.pl [8, 8]
              obtain ⟨r601, h602, hx⟩ := bind_some' hx
              refine w_call rfl rfl (hM.callO (l := [oC (cSl 1 fLDPart r438.1.undo) s441.v, oC (cSl 1 fLDPart r438.1.redo) s442.v]) fun X S oL hS hR hO => ct_laws_markStory _ X S r438.1 s441 s442 (1 : Int) hS  oL h602) ?_
              rintro _ w603 ⟨_, rfl, hM⟩
              replace hM : St ⟨w, X, S⟩ [oC (cSl 1 fLDPart r601.2.undo) s441.v, oC (cSl 1 fLDPart r601.2.redo) s442.v, oC (cSl 1 fI r541.2) s433.v, oC (cSl 1 fLDPart r535.2.undo) s419.v, oC (cSl 1 fLDPart r535.2.redo) s420.v, oC (cSl 1 fI r520) s523.v, oC (cSl 1 fLDPart r500.undo) s503.v, oC (cSl 1 fLDPart r500.redo) s504.v, oBox b452 #[(.int .i64 r438.1.n), s441.v, s442.v] 48, oC (cSl 3 fDPart r438.2.1) s443.v, oBox b424 #[(.int .i64 r416.n), s419.v, s420.v] 48, oBox b408 #[(.int .i64 r394.1.n), s397.v, s398.v] 48, oC (cSl 1 fLDPart r394.1.undo) s397.v, oC (cSl 1 fLDPart r394.1.redo) s398.v, oC (cSl 3 fDPart r394.2.1) s399.v, oC (cSl 1 fI r389) s392.v, oC (cSl 1 fLDPart r381.undo) s384.v, oC (cSl 1 fLDPart r381.redo) s385.v, oBox b359 #[(.int .i64 aP.n), s_aP_1.v, s_aP_2.v] 43] [rV s_aT.v (cSl 1 fI aT), rV s_aP_2.v (cSl 1 fLDPart aP.redo), rV s_aP_1.v (cSl 1 fLDPart aP.undo)] _ := hM
              refine wv rfl (r_assign rfl) ?_
              refine wl_nil ?_
              refine sq_n ?_
              refine wc_seq ?_
              refine wc_region ?_
              refine wv rfl (r_move rfl) ?_
              refine wv rfl (r_move rfl) ?_
              replace hM : St ⟨w, X, S⟩ [oC (cSl 3 fDPart r438.2.1) s443.v, oC (cSl 1 fLDPart r601.2.undo) s441.v, oC (cSl 1 fLDPart r601.2.redo) s442.v, oC (cSl 1 fI r541.2) s433.v, oC (cSl 1 fLDPart r535.2.undo) s419.v, oC (cSl 1 fLDPart r535.2.redo) s420.v, oC (cSl 1 fI r520) s523.v, oC (cSl 1 fLDPart r500.undo) s503.v, oC (cSl 1 fLDPart r500.redo) s504.v, oBox b452 #[(.int .i64 r438.1.n), s441.v, s442.v] 48, oBox b424 #[(.int .i64 r416.n), s419.v, s420.v] 48, oBox b408 #[(.int .i64 r394.1.n), s397.v, s398.v] 48, oC (cSl 1 fLDPart r394.1.undo) s397.v, oC (cSl 1 fLDPart r394.1.redo) s398.v, oC (cSl 3 fDPart r394.2.1) s399.v, oC (cSl 1 fI r389) s392.v, oC (cSl 1 fLDPart r381.undo) s384.v, oC (cSl 1 fLDPart r381.redo) s385.v, oBox b359 #[(.int .i64 aP.n), s_aP_1.v, s_aP_2.v] 43] [rV s_aT.v (cSl 1 fI aT), rV s_aP_2.v (cSl 1 fLDPart aP.redo), rV s_aP_1.v (cSl 1 fLDPart aP.undo)] _ := hM.pl [9]
              obtain ⟨r607, h608, hx⟩ := bind_some' hx
              refine w_call rfl rfl (hM.callO (l := [oC (cSl 3 fDPart r438.2.1) s443.v]) fun X S oL hS hR hO => ct_laws_markPartS _ X S r438.2.1 s443 r601.1 hS  oL h608) ?_
              rintro _ w609 ⟨_, rfl, hM⟩
              replace hM : St ⟨w, X, S⟩ [oC (cSl 3 fDPart r607.2) s443.v, oC (cSl 1 fLDPart r601.2.undo) s441.v, oC (cSl 1 fLDPart r601.2.redo) s442.v, oC (cSl 1 fI r541.2) s433.v, oC (cSl 1 fLDPart r535.2.undo) s419.v, oC (cSl 1 fLDPart r535.2.redo) s420.v, oC (cSl 1 fI r520) s523.v, oC (cSl 1 fLDPart r500.undo) s503.v, oC (cSl 1 fLDPart r500.redo) s504.v, oBox b452 #[(.int .i64 r438.1.n), s441.v, s442.v] 48, oBox b424 #[(.int .i64 r416.n), s419.v, s420.v] 48, oBox b408 #[(.int .i64 r394.1.n), s397.v, s398.v] 48, oC (cSl 1 fLDPart r394.1.undo) s397.v, oC (cSl 1 fLDPart r394.1.redo) s398.v, oC (cSl 3 fDPart r394.2.1) s399.v, oC (cSl 1 fI r389) s392.v, oC (cSl 1 fLDPart r381.undo) s384.v, oC (cSl 1 fLDPart r381.redo) s385.v, oBox b359 #[(.int .i64 aP.n), s_aP_1.v, s_aP_2.v] 43] [rV s_aT.v (cSl 1 fI aT), rV s_aP_2.v (cSl 1 fLDPart aP.redo), rV s_aP_1.v (cSl 1 fLDPart aP.undo)] _ := hM
              refine wv rfl (r_assign rfl) ?_
              refine wl_nil ?_
              refine sq_n ?_
              refine wc_seq ?_
              refine wc_region ?_
              refine wv rfl (r_assign rfl) ?_
              refine wl_nil ?_
              refine sq_n ?_
              refine wc_seq ?_
              refine wc_region ?_
              refine wv rfl (r_ldBS Try.underlying48 sz48 rfl (us := [(.int .i64 r438.1.n), s441.v, s442.v]) rfl hM (.tail _ (.tail _ (.tail _ (.tail _ (.tail _ (.tail _ (.tail _ (.tail _ (.tail _ (.head _)))))))))) rfl) ?_
              refine wv rfl (r_move rfl) ?_
              obtain ⟨r614, h615, hx⟩ := bind_some' hx
              refine w_call rfl rfl (hM.callV fun X S oL hS hR hO => ct_laws_heldStory _ X S (⟨r438.1.n, r601.2.undo, r601.2.redo⟩ : DStory) s441 s442 (1 : Int) hS (seeA hO (.tail _ (.head _))) (seeA hO (.tail _ (.tail _ (.head _)))) oL h615) ?_
              rintro _ w616 ⟨rfl, hR617⟩
              have hM := hM.call hR617
              refine wv rfl (r_assign rfl) ?_
              refine wl_nil ?_
              refine sq_n ?_
              refine wc_seq ?_
              refine wc_seq ?_
              refine wc_region ?_
              refine wv rfl (r_move rfl) ?_
              refine wv rfl (r_lss rfl rfl) ?_
              refine wl_nil ?_
              refine sq_n ?_
              refine wc_cond rfl (fun hc621 => ?_) (fun hc621 => ?_)
              · replace hx := xif_t hc621 hx
                refine wc_seq ?_
                refine wc_region ?_
                refine wv rfl (r_assign rfl) ?_
                refine wl_nil ?_
                refine sq_n ?_
                refine wc_ret ?_
                refine sq_ret ?_
                obtain rfl := Option.some.inj hx
                refine fin_ret [(.bool false)] ⟨rfl, trivial⟩ ?_
                replace hM : St ⟨w, X, S⟩ [] [rV s_aT.v (cSl 1 fI aT), rV s_aP_2.v (cSl 1 fLDPart aP.redo), rV s_aP_1.v (cSl 1 fLDPart aP.undo)] _ := hM.tk 0
                have hM := hM.fewer rsN
                exact ⟨(), rfl, hM.gives⟩
              · replace hx := xif_f hc621 hx
                refine wc_skip ?_
                refine sq_n ?_
                refine wc_seq ?_
                refine wc_region ?_
                refine wv rfl (r_move rfl) ?_
                refine wv rfl (r_move rfl) ?_
                obtain ⟨r625, h626, hx⟩ := bind_some' hx
                refine w_call rfl rfl (hM.callV fun X S oL hS hR hO => ct_laws_heldPartS _ X S r607.2 s443 r614 hS (seeA hO (.head _)) oL h626) ?_
                rintro _ w627 ⟨rfl, hR628⟩
                have hM := hM.call hR628
                refine wv rfl (r_assign rfl) ?_
                refine wl_nil ?_
                refine sq_n ?_
                refine wc_seq ?_
                refine wc_seq ?_
                refine wc_region ?_
                refine wv rfl (r_move rfl) ?_
                refine wv rfl (r_lss rfl rfl) ?_
                refine wl_nil ?_
                refine sq_n ?_
                refine wc_cond rfl (fun hc632 => ?_) (fun hc632 => ?_)
                · replace hx := xif_t hc632 hx
                  refine wc_seq ?_
                  refine wc_region ?_
                  refine wv rfl (r_assign rfl) ?_
                  refine wl_nil ?_
                  refine sq_n ?_
                  refine wc_ret ?_
                  refine sq_ret ?_
                  obtain rfl := Option.some.inj hx
                  refine fin_ret [(.bool false)] ⟨rfl, trivial⟩ ?_
                  replace hM : St ⟨w, X, S⟩ [] [rV s_aT.v (cSl 1 fI aT), rV s_aP_2.v (cSl 1 fLDPart aP.redo), rV s_aP_1.v (cSl 1 fLDPart aP.undo)] _ := hM.tk 0
                  have hM := hM.fewer rsN
                  exact ⟨(), rfl, hM.gives⟩
                · replace hx := xif_f hc632 hx
                  refine wc_skip ?_
                  refine sq_n ?_
                  refine wc_seq ?_
                  refine wc_seq ?_
                  refine wc_region ?_
                  refine wv rfl (r_move rfl) ?_
                  refine wv rfl (r_move rfl) ?_
                  refine wv rfl (r_neq rfl rfl) ?_
                  refine wl_nil ?_
                  refine sq_n ?_
                  refine wc_cond rfl (fun hc637 => ?_) (fun hc637 => ?_)
                  · replace hx := xif_t hc637 hx
                    refine wc_seq ?_
                    refine wc_region ?_
                    refine wv rfl (r_assign rfl) ?_
                    refine wl_nil ?_
                    refine sq_n ?_
                    refine wc_ret ?_
                    refine sq_ret ?_
                    obtain rfl := Option.some.inj hx
                    refine fin_ret [(.bool false)] ⟨rfl, trivial⟩ ?_
                    replace hM : St ⟨w, X, S⟩ [] [rV s_aT.v (cSl 1 fI aT), rV s_aP_2.v (cSl 1 fLDPart aP.redo), rV s_aP_1.v (cSl 1 fLDPart aP.undo)] _ := hM.tk 0
                    have hM := hM.fewer rsN
                    exact ⟨(), rfl, hM.gives⟩
                  · replace hx := xif_f hc637 hx
                    refine wc_skip ?_
                    refine sq_n ?_
                    refine wc_seq ?_
                    refine wc_region ?_
                    refine wv rfl (r_ldBS Try.underlying43 sz43 rfl (us := [(.int .i64 aP.n), s_aP_1.v, s_aP_2.v]) rfl hM (.tail _ (.tail _ (.tail _ (.tail _ (.tail _ (.tail _ (.tail _ (.tail _ (.tail _ (.tail _ (.tail _ (.tail _ (.tail _ (.tail _ (.tail _ (.tail _ (.tail _ (.tail _ (.head _))))))))))))))))))) rfl) ?_
                    obtain ⟨r640, h641, hx⟩ := bind_some' hx
                    refine w_call rfl rfl (hM.callO (l := []) fun X S oL hS hR hO => ct_laws_toStory _ X S aP s_aP_1 s_aP_2 hS (hR _ (.tail _ (.tail _ (.head _)))) (hR _ (.tail _ (.head _))) oL h641) ?_
                    rintro _ w642 ⟨⟨s643, s644⟩, rfl, hM⟩
                    replace hM : St ⟨w, X, S⟩ [oC (cSl 1 fLDPart r640.undo) s643.v, oC (cSl 1 fLDPart r640.redo) s644.v, oC (cSl 3 fDPart r607.2) s443.v, oC (cSl 1 fLDPart r601.2.undo) s441.v, oC (cSl 1 fLDPart r601.2.redo) s442.v, oC (cSl 1 fI r541.2) s433.v, oC (cSl 1 fLDPart r535.2.undo) s419.v, oC (cSl 1 fLDPart r535.2.redo) s420.v, oC (cSl 1 fI r520) s523.v, oC (cSl 1 fLDPart r500.undo) s503.v, oC (cSl 1 fLDPart r500.redo) s504.v, oBox b452 #[(.int .i64 r438.1.n), s441.v, s442.v] 48, oBox b424 #[(.int .i64 r416.n), s419.v, s420.v] 48, oBox b408 #[(.int .i64 r394.1.n), s397.v, s398.v] 48, oC (cSl 1 fLDPart r394.1.undo) s397.v, oC (cSl 1 fLDPart r394.1.redo) s398.v, oC (cSl 3 fDPart r394.2.1) s399.v, oC (cSl 1 fI r389) s392.v, oC (cSl 1 fLDPart r381.undo) s384.v, oC (cSl 1 fLDPart r381.redo) s385.v, oBox b359 #[(.int .i64 aP.n), s_aP_1.v, s_aP_2.v] 43] [rV s_aT.v (cSl 1 fI aT), rV s_aP_2.v (cSl 1 fLDPart aP.redo), rV s_aP_1.v (cSl 1 fLDPart aP.undo)] _ := hM
                    refine wv rfl (r_move rfl) ?_
                    obtain ⟨r648, h649, hx⟩ := bind_some' hx
                    refine w_call rfl rfl (hM.callO (l := []) fun X S oL hS hR hO => ct_laws_toIntS _ X S aT s_aT hS (hR _ (.head _)) oL h649) ?_
                    rintro _ w650 ⟨s651, rfl, hM⟩
                    replace hM : St ⟨w, X, S⟩ [oC (cSl 1 fI r648) s651.v, oC (cSl 1 fLDPart r640.undo) s643.v, oC (cSl 1 fLDPart r640.redo) s644.v, oC (cSl 3 fDPart r607.2) s443.v, oC (cSl 1 fLDPart r601.2.undo) s441.v, oC (cSl 1 fLDPart r601.2.redo) s442.v, oC (cSl 1 fI r541.2) s433.v, oC (cSl 1 fLDPart r535.2.undo) s419.v, oC (cSl 1 fLDPart r535.2.redo) s420.v, oC (cSl 1 fI r520) s523.v, oC (cSl 1 fLDPart r500.undo) s503.v, oC (cSl 1 fLDPart r500.redo) s504.v, oBox b452 #[(.int .i64 r438.1.n), s441.v, s442.v] 48, oBox b424 #[(.int .i64 r416.n), s419.v, s420.v] 48, oBox b408 #[(.int .i64 r394.1.n), s397.v, s398.v] 48, oC (cSl 1 fLDPart r394.1.undo) s397.v, oC (cSl 1 fLDPart r394.1.redo) s398.v, oC (cSl 3 fDPart r394.2.1) s399.v, oC (cSl 1 fI r389) s392.v, oC (cSl 1 fLDPart r381.undo) s384.v, oC (cSl 1 fLDPart r381.redo) s385.v, oBox b359 #[(.int .i64 aP.n), s_aP_1.v, s_aP_2.v] 43] [rV s_aT.v (cSl 1 fI aT), rV s_aP_2.v (cSl 1 fLDPart aP.redo), rV s_aP_1.v (cSl 1 fLDPart aP.undo)] _ := hM
                    obtain ⟨r653, h654, hx⟩ := bind_some' hx
                    refine w_call rfl rfl (hM.callO (l := []) fun X S oL hS hR hO => ct_impl_PastRedo _ X S r640 s643 s644 r648 s651 hS (seeA hO (.tail _ (.head _))) (seeA hO (.tail _ (.tail _ (.head _)))) (seeA hO (.head _)) oL h654) ?_
                    rintro _ w655 ⟨⟨s656, s657, s658⟩, rfl, hM⟩
                    replace hM : St ⟨w, X, S⟩ [oC (cSl 1 fLDPart r653.1.undo) s656.v, oC (cSl 1 fLDPart r653.1.redo) s657.v, oC (cSl 3 fDPart r653.2.1) s658.v, oC (cSl 1 fI r648) s651.v, oC (cSl 1 fLDPart r640.undo) s643.v, oC (cSl 1 fLDPart r640.redo) s644.v, oC (cSl 3 fDPart r607.2) s443.v, oC (cSl 1 fLDPart r601.2.undo) s441.v, oC (cSl 1 fLDPart r601.2.redo) s442.v, oC (cSl 1 fI r541.2) s433.v, oC (cSl 1 fLDPart r535.2.undo) s419.v, oC (cSl 1 fLDPart r535.2.redo) s420.v, oC (cSl 1 fI r520) s523.v, oC (cSl 1 fLDPart r500.undo) s503.v, oC (cSl 1 fLDPart r500.redo) s504.v, oBox b452 #[(.int .i64 r438.1.n), s441.v, s442.v] 48, oBox b424 #[(.int .i64 r416.n), s419.v, s420.v] 48, oBox b408 #[(.int .i64 r394.1.n), s397.v, s398.v] 48, oC (cSl 1 fLDPart r394.1.undo) s397.v, oC (cSl 1 fLDPart r394.1.redo) s398.v, oC (cSl 3 fDPart r394.2.1) s399.v, oC (cSl 1 fI r389) s392.v, oC (cSl 1 fLDPart r381.undo) s384.v, oC (cSl 1 fLDPart r381.redo) s385.v, oBox b359 #[(.int .i64 aP.n), s_aP_1.v, s_aP_2.v] 43] [rV s_aT.v (cSl 1 fI aT), rV s_aP_2.v (cSl 1 fLDPart aP.redo), rV s_aP_1.v (cSl 1 fLDPart aP.undo)] _ := hM
                    refine wv rfl (r_move rfl) ?_
                    refine wv rfl (r_extract rfl rfl) ?_
                    refine wv rfl (r_extract rfl rfl) ?_
                    refine wv rfl (r_extract rfl rfl) ?_
                    refine w_ex rfl (x_alloc sz48 hM ?_); intro b667 w666 hR668 hM
                    replace hM : St ⟨w, X, S⟩ [oBox b667 #[(.int .i64 0), (.slice none 0 0), (.slice none 0 0)] 48, oC (cSl 1 fLDPart r653.1.undo) s656.v, oC (cSl 1 fLDPart r653.1.redo) s657.v, oC (cSl 3 fDPart r653.2.1) s658.v, oC (cSl 1 fI r648) s651.v, oC (cSl 1 fLDPart r640.undo) s643.v, oC (cSl 1 fLDPart r640.redo) s644.v, oC (cSl 3 fDPart r607.2) s443.v, oC (cSl 1 fLDPart r601.2.undo) s441.v, oC (cSl 1 fLDPart r601.2.redo) s442.v, oC (cSl 1 fI r541.2) s433.v, oC (cSl 1 fLDPart r535.2.undo) s419.v, oC (cSl 1 fLDPart r535.2.redo) s420.v, oC (cSl 1 fI r520) s523.v, oC (cSl 1 fLDPart r500.undo) s503.v, oC (cSl 1 fLDPart r500.redo) s504.v, oBox b452 #[(.int .i64 r438.1.n), s441.v, s442.v] 48, oBox b424 #[(.int .i64 r416.n), s419.v, s420.v] 48, oBox b408 #[(.int .i64 r394.1.n), s397.v, s398.v] 48, oC (cSl 1 fLDPart r394.1.undo) s397.v, oC (cSl 1 fLDPart r394.1.redo) s398.v, oC (cSl 3 fDPart r394.2.1) s399.v, oC (cSl 1 fI r389) s392.v, oC (cSl 1 fLDPart r381.undo) s384.v, oC (cSl 1 fLDPart r381.redo) s385.v, oBox b359 #[(.int .i64 aP.n), s_aP_1.v, s_aP_2.v] 43] [rV s_aT.v (cSl 1 fI aT), rV s_aP_2.v (cSl 1 fLDPart aP.redo), rV s_aP_1.v (cSl 1 fLDPart aP.undo)] _ := hM
                    refine w_exu (x_stB #[(.int .i64 r653.1.n), s656.v, s657.v] sz48 rfl rfl rfl rfl rfl rfl hM ?_); intro w670 hM
                    refine wv rfl (r_assign rfl) ?_
                    refine wv rfl (r_assign rfl) ?_
                    refine wl_nil ?_
                    refine sq_n ?_
                    refine wc_seq ?_
                    refine wc_seq ?_
                    refine wc_region ?_
                    refine wv rfl (r_ldBS Try.underlying48 sz48 rfl (us := [(.int .i64 r653.1.n), s656.v, s657.v]) rfl hM (.head _) rfl) ?_
                    refine wv rfl (r_ldBS Try.underlying48 sz48 rfl (us := [(.int .i64 r394.1.n), s397.v, s398.v]) rfl hM (.tail _ (.tail _ (.tail _ (.tail _ (.tail _ (.tail _ (.tail _ (.tail _ (.tail _ (.tail _ (.tail _ (.tail _ (.tail _ (.tail _ (.tail _ (.tail _ (.tail _ (.tail _ (.head _))))))))))))))))))) rfl) ?_
                    obtain ⟨r676, h677, hx⟩ := bind_some' hx
                    refine w_call rfl rfl (hM.callV fun X S oL hS hR hO => ct_laws_eqStory _ X S r653.1 s656 s657 r394.1 s397 s398 hS (seeA hO (.tail _ (.head _))) (seeA hO (.tail _ (.tail _ (.head _)))) (seeA hO (.tail _ (.tail _ (.tail _ (.tail _ (.tail _ (.tail _ (.tail _ (.tail _ (.tail _ (.tail _ (.tail _ (.tail _ (.tail _ (.tail _ (.tail _ (.tail _ (.tail _ (.tail _ (.tail _ (.head _))))))))))))))))))))) (seeA hO (.tail _ (.tail _ (.tail _ (.tail _ (.tail _ (.tail _ (.tail _ (.tail _ (.tail _ (.tail _ (.tail _ (.tail _ (.tail _ (.tail _ (.tail _ (.tail _ (.tail _ (.tail _ (.tail _ (.tail _ (.head _)))))))))))))))))))))) oL h677) ?_
                    rintro _ w678 ⟨rfl, hR679⟩
                    have hM := hM.call hR679
                    refine wv rfl (r_not rfl) ?_
                    refine wv rfl (r_move rfl) ?_
                    obtain ⟨c682, hx, hx691⟩ := bind_some' hx
                    refine wl_mid 5 (fun _ : Unit => [(135, (.bool c682)), (8, (.bool r394.2.2)), (11, (.pointer (some ⟨b452, 0, none⟩))), (12, s443.v), (15, (.int .i64 r607.1)), (19, (.bool r653.2.2))]) (fun _ w' => St ⟨w, X, S⟩ [oBox b667 #[(.int .i64 r653.1.n), s656.v, s657.v] 48, oC (cSl 1 fLDPart r653.1.undo) s656.v, oC (cSl 1 fLDPart r653.1.redo) s657.v, oC (cSl 3 fDPart r653.2.1) s658.v, oC (cSl 1 fI r648) s651.v, oC (cSl 1 fLDPart r640.undo) s643.v, oC (cSl 1 fLDPart r640.redo) s644.v, oC (cSl 3 fDPart r607.2) s443.v, oC (cSl 1 fLDPart r601.2.undo) s441.v, oC (cSl 1 fLDPart r601.2.redo) s442.v, oC (cSl 1 fI r541.2) s433.v, oC (cSl 1 fLDPart r535.2.undo) s419.v, oC (cSl 1 fLDPart r535.2.redo) s420.v, oC (cSl 1 fI r520) s523.v, oC (cSl 1 fLDPart r500.undo) s503.v, oC (cSl 1 fLDPart r500.redo) s504.v, oBox b452 #[(.int .i64 r438.1.n), s441.v, s442.v] 48, oBox b424 #[(.int .i64 r416.n), s419.v, s420.v] 48, oBox b408 #[(.int .i64 r394.1.n), s397.v, s398.v] 48, oC (cSl 1 fLDPart r394.1.undo) s397.v, oC (cSl 1 fLDPart r394.1.redo) s398.v, oC (cSl 3 fDPart r394.2.1) s399.v, oC (cSl 1 fI r389) s392.v, oC (cSl 1 fLDPart r381.undo) s384.v, oC (cSl 1 fLDPart r381.redo) s385.v, oBox b359 #[(.int .i64 aP.n), s_aP_1.v, s_aP_2.v] 43] [rV s_aT.v (cSl 1 fI aT), rV s_aP_2.v (cSl 1 fLDPart aP.redo), rV s_aP_1.v (cSl 1 fLDPart aP.undo)] w') ?_ ?_
                    · rcases Bool.eq_false_or_eq_true (!r676) with hg683 | hg683
                      · replace hx := xif_t hg683 hx
                        refine gs rfl (isB_no hg683) rfl ?_
                        refine gs rfl (isB_no hg683) rfl ?_
                        refine gs rfl (isB_no hg683) rfl ?_
                        refine gs rfl (isB_no hg683) rfl ?_
                        refine wv rfl (p_t rfl hg683 rfl) ?_
                        obtain rfl := Option.some.inj hx
                        exact mid_nil () ⟨rfl, rfl, rfl, rfl, rfl, rfl, trivial⟩ hM
                      · replace hx := xif_f hg683 hx
                        refine gv rfl hg683 rfl (r_move rfl) ?_
                        refine gv rfl hg683 rfl (r_move rfl) ?_
                        obtain ⟨r694, h695, hx⟩ := bind_some' hx
                        refine gc rfl hg683 rfl rfl (hM.callV fun X S oL hS hR hO => ct_laws_eqPartS _ X S r653.2.1 s658 r394.2.1 s399 hS (seeA hO (.tail _ (.tail _ (.tail _ (.head _))))) (seeA hO (.tail _ (.tail _ (.tail _ (.tail _ (.tail _ (.tail _ (.tail _ (.tail _ (.tail _ (.tail _ (.tail _ (.tail _ (.tail _ (.tail _ (.tail _ (.tail _ (.tail _ (.tail _ (.tail _ (.tail _ (.tail _ (.head _))))))))))))))))))))))) oL h695) ?_
                        rintro _ w696 ⟨rfl, hR697⟩
                        have hM := hM.call hR697
                        refine gv rfl hg683 rfl (r_not rfl) ?_
                        refine wv rfl (p_f rfl hg683 rfl) ?_
                        obtain rfl := Option.some.inj hx
                        exact mid_nil () ⟨rfl, rfl, rfl, rfl, rfl, rfl, trivial⟩ hM
                    rintro _ w699 hM
                    replace hx := hx691
                    refine wv rfl (r_move rfl) ?_
                    obtain ⟨c701, hx, hx706⟩ := bind_some' hx
                    refine wl_mid 4 (fun _ : Unit => [(140, (.bool c701)), (11, (.pointer (some ⟨b452, 0, none⟩))), (12, s443.v), (15, (.int .i64 r607.1))]) (fun _ w' => St ⟨w, X, S⟩ [oBox b667 #[(.int .i64 r653.1.n), s656.v, s657.v] 48, oC (cSl 1 fLDPart r653.1.undo) s656.v, oC (cSl 1 fLDPart r653.1.redo) s657.v, oC (cSl 3 fDPart r653.2.1) s658.v, oC (cSl 1 fI r648) s651.v, oC (cSl 1 fLDPart r640.undo) s643.v, oC (cSl 1 fLDPart r640.redo) s644.v, oC (cSl 3 fDPart r607.2) s443.v, oC (cSl 1 fLDPart r601.2.undo) s441.v, oC (cSl 1 fLDPart r601.2.redo) s442.v, oC (cSl 1 fI r541.2) s433.v, oC (cSl 1 fLDPart r535.2.undo) s419.v, oC (cSl 1 fLDPart r535.2.redo) s420.v, oC (cSl 1 fI r520) s523.v, oC (cSl 1 fLDPart r500.undo) s503.v, oC (cSl 1 fLDPart r500.redo) s504.v, oBox b452 #[(.int .i64 r438.1.n), s441.v, s442.v] 48, oBox b424 #[(.int .i64 r416.n), s419.v, s420.v] 48, oBox b408 #[(.int .i64 r394.1.n), s397.v, s398.v] 48, oC (cSl 1 fLDPart r394.1.undo) s397.v, oC (cSl 1 fLDPart r394.1.redo) s398.v, oC (cSl 3 fDPart r394.2.1) s399.v, oC (cSl 1 fI r389) s392.v, oC (cSl 1 fLDPart r381.undo) s384.v, oC (cSl 1 fLDPart r381.redo) s385.v, oBox b359 #[(.int .i64 aP.n), s_aP_1.v, s_aP_2.v] 43] [rV s_aT.v (cSl 1 fI aT), rV s_aP_2.v (cSl 1 fLDPart aP.redo), rV s_aP_1.v (cSl 1 fLDPart aP.undo)] w') ?_ ?_
                    · rcases Bool.eq_false_or_eq_true c682 with hg702 | hg702
                      · replace hx := xif_t hg702 hx
                        refine gs rfl (isB_no hg702) rfl ?_
                        refine gs rfl (isB_no hg702) rfl ?_
                        refine gs rfl (isB_no hg702) rfl ?_
                        refine wv rfl (p_t rfl hg702 rfl) ?_
                        obtain rfl := Option.some.inj hx
                        exact mid_nil () ⟨rfl, rfl, rfl, rfl, trivial⟩ hM
                      · replace hx := xif_f hg702 hx
                        refine gv rfl hg702 rfl (r_move rfl) ?_
                        refine gv rfl hg702 rfl (r_move rfl) ?_
                        refine gv rfl hg702 rfl (r_neqb Try.underlying4 rfl rfl) ?_
                        refine wv rfl (p_f rfl hg702 rfl) ?_
                        obtain rfl := Option.some.inj hx
                        exact mid_nil () ⟨rfl, rfl, rfl, rfl, trivial⟩ hM
                    rintro _ w710 hM
                    replace hx := hx706
                    refine wl_nil ?_
                    refine sq_n ?_
                    refine wc_cond rfl (fun hc711 => ?_) (fun hc711 => ?_)
                    · replace hx := xif_t hc711 hx
                      refine wc_seq ?_
                      refine wc_region ?_
                      refine wv rfl (r_assign rfl) ?_
                      refine wl_nil ?_
                      refine sq_n ?_
                      refine wc_ret ?_
                      refine sq_ret ?_
                      obtain rfl := Option.some.inj hx
                      refine fin_ret [(.bool false)] ⟨rfl, trivial⟩ ?_
                      replace hM : St ⟨w, X, S⟩ [] [rV s_aT.v (cSl 1 fI aT), rV s_aP_2.v (cSl 1 fLDPart aP.redo), rV s_aP_1.v (cSl 1 fLDPart aP.undo)] _ := hM.tk 0
                      have hM := hM.fewer rsN
                      exact ⟨(), rfl, hM.gives⟩
                    · replace hx := xif_f hc711 hx
                      refine wc_skip ?_
                      refine sq_n ?_
                      refine wc_seq ?_
                      refine wc_region ?_
                      refine wv rfl (r_assign rfl) ?_
                      refine wl_nil ?_
                      refine sq_n ?_
                      refine wc_seq ?_
                      refine wc_region ?_
                      refine wv rfl (r_ldBS Try.underlying48 sz48 rfl (us := [(.int .i64 r438.1.n), s441.v, s442.v]) rfl hM (.tail _ (.tail _ (.tail _ (.tail _ (.tail _ (.tail _ (.tail _ (.tail _ (.tail _ (.tail _ (.tail _ (.tail _ (.tail _ (.tail _ (.tail _ (.tail _ (.head _))))))))))))))))) rfl) ?_
                      refine wv rfl (r_move rfl) ?_
                      obtain ⟨r716, h717, hx⟩ := bind_some' hx
                      refine w_call rfl rfl (hM.callV fun X S oL hS hR hO => ct_laws_heldStory _ X S (⟨r438.1.n, r601.2.undo, r601.2.redo⟩ : DStory) s441 s442 (1 : Int) hS (seeA hO (.tail _ (.tail _ (.tail _ (.tail _ (.tail _ (.tail _ (.tail _ (.tail _ (.head _)))))))))) (seeA hO (.tail _ (.tail _ (.tail _ (.tail _ (.tail _ (.tail _ (.tail _ (.tail _ (.tail _ (.head _))))))))))) oL h717) ?_
                      rintro _ w718 ⟨rfl, hR719⟩
                      have hM := hM.call hR719
                      refine wv rfl (r_assign rfl) ?_
                      refine wl_nil ?_
                      refine sq_n ?_
                      refine wc_seq ?_
                      refine wc_seq ?_
                      refine wc_region ?_
                      refine wv rfl (r_move rfl) ?_
                      refine wv rfl (r_lss rfl rfl) ?_
                      refine wl_nil ?_
                      refine sq_n ?_
                      refine wc_cond rfl (fun hc723 => ?_) (fun hc723 => ?_)
                      · replace hx := xif_t hc723 hx
                        refine wc_seq ?_
                        refine wc_region ?_
                        refine wv rfl (r_assign rfl) ?_
                        refine wl_nil ?_
                        refine sq_n ?_
                        refine wc_ret ?_
                        refine sq_ret ?_
                        obtain rfl := Option.some.inj hx
                        refine fin_ret [(.bool false)] ⟨rfl, trivial⟩ ?_
                        replace hM : St ⟨w, X, S⟩ [] [rV s_aT.v (cSl 1 fI aT), rV s_aP_2.v (cSl 1 fLDPart aP.redo), rV s_aP_1.v (cSl 1 fLDPart aP.undo)] _ := hM.tk 0
                        have hM := hM.fewer rsN
                        exact ⟨(), rfl, hM.gives⟩
                      · replace hx := xif_f hc723 hx
                        refine wc_skip ?_
                        refine sq_n ?_
                        refine wc_seq ?_
                        refine wc_region ?_
                        refine wv rfl (r_move rfl) ?_
                        refine wv rfl (r_move rfl) ?_
                        obtain ⟨r727, h728, hx⟩ := bind_some' hx
                        refine w_call rfl rfl (hM.callV fun X S oL hS hR hO => ct_laws_heldPartS _ X S r607.2 s443 r716 hS (seeA hO (.tail _ (.tail _ (.tail _ (.tail _ (.tail _ (.tail _ (.tail _ (.head _))))))))) oL h728) ?_
                        rintro _ w729 ⟨rfl, hR730⟩
                        have hM := hM.call hR730
                        refine wv rfl (r_assign rfl) ?_
                        refine wl_nil ?_
                        refine sq_n ?_
                        refine wc_seq ?_
                        refine wc_seq ?_
                        refine wc_region ?_
                        refine wv rfl (r_move rfl) ?_
                        refine wv rfl (r_lss rfl rfl) ?_
                        refine wl_nil ?_
                        refine sq_n ?_
                        refine wc_cond rfl (fun hc734 => ?_) (fun hc734 => ?_)
                        · replace hx := xif_t hc734 hx
                          refine wc_seq ?_
                          refine wc_region ?_
                          refine wv rfl (r_assign rfl) ?_
                          refine wl_nil ?_
                          refine sq_n ?_
                          refine wc_ret ?_
                          refine sq_ret ?_
                          obtain rfl := Option.some.inj hx
                          refine fin_ret [(.bool false)] ⟨rfl, trivial⟩ ?_
                          replace hM : St ⟨w, X, S⟩ [] [rV s_aT.v (cSl 1 fI aT), rV s_aP_2.v (cSl 1 fLDPart aP.redo), rV s_aP_1.v (cSl 1 fLDPart aP.undo)] _ := hM.tk 0
                          have hM := hM.fewer rsN
                          exact ⟨(), rfl, hM.gives⟩
                        · replace hx := xif_f hc734 hx
                          refine wc_skip ?_
                          refine sq_n ?_
                          refine wc_seq ?_
                          refine wc_seq ?_
                          refine wc_region ?_
                          refine wv rfl (r_move rfl) ?_
                          refine wv rfl (r_move rfl) ?_
                          refine wv rfl (r_neq rfl rfl) ?_
                          refine wl_nil ?_
                          refine sq_n ?_
                          refine wc_cond rfl (fun hc739 => ?_) (fun hc739 => ?_)
                          · replace hx := xif_t hc739 hx
                            refine wc_seq ?_
                            refine wc_region ?_
                            refine wv rfl (r_assign rfl) ?_
                            refine wl_nil ?_
                            refine sq_n ?_
                            refine wc_ret ?_
                            refine sq_ret ?_
                            obtain rfl := Option.some.inj hx
                            refine fin_ret [(.bool false)] ⟨rfl, trivial⟩ ?_
                            replace hM : St ⟨w, X, S⟩ [] [rV s_aT.v (cSl 1 fI aT), rV s_aP_2.v (cSl 1 fLDPart aP.redo), rV s_aP_1.v (cSl 1 fLDPart aP.undo)] _ := hM.tk 0
                            have hM := hM.fewer rsN
                            exact ⟨(), rfl, hM.gives⟩
                          · replace hx := xif_f hc739 hx
                            refine wc_skip ?_
                            refine sq_n ?_
                            refine wc_seq ?_
                            refine wc_region ?_
                            refine wv rfl (r_assign rfl) ?_
                            refine wl_nil ?_
                            refine sq_n ?_
                            refine wc_ret ?_
                            obtain rfl := Option.some.inj hx
                            refine fin_ret [(.bool true)] ⟨rfl, trivial⟩ ?_
                            replace hM : St ⟨w, X, S⟩ [] [rV s_aT.v (cSl 1 fI aT), rV s_aP_2.v (cSl 1 fLDPart aP.redo), rV s_aP_1.v (cSl 1 fLDPart aP.undo)] _ := hM.tk 0
                            have hM := hM.fewer rsN
                            exact ⟨(), rfl, hM.gives⟩

end Go.Proofs.Ytnpfbhejekpmaaa
