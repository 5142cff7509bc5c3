/- Walks of functions of this program (printed by a program of ours, by the rules of the layer). No condition. -/
import Derived.Test.YtnpfbhejekpmaaaG3
namespace Go.Proofs.Ytnpfbhejekpmaaa
open Go.RowKit

noncomputable def x_impl_normalOr (o : List DPart) : Option (List DPart × Bool) :=
  Option.bind (x_impl_OpOk o) fun r4 => bif !r4 then (some ([], false)) else (Option.bind (x_impl_OpNorm o) fun r12 => some (r12, true))
theorem ct_impl_normalOr (w : World) (X S : Bs) (o : List DPart) (s_o : Sv) (hS : ∀ b, S b → b < w.heap.size ∧ ¬ X b) (a_o_0 : (cSl 3 fDPart o).rd S w s_o.v) (oL : Sep [] X w) {r : List DPart × Bool} (hx : x_impl_normalOr o = some r) :
    Ret Try.prog 123 [s_o.v] w (fun u w' => ∃ y : Sv, u = .tuple #[y.v, (.bool r.2)] ∧ Gives X S w [oC (cSl 3 fDPart r.1) y.v] [] w') := by
  unfold x_impl_normalOr at hx
  refine enter Try.func123 rfl Try.ntmps123 (by kernel_rfl) rfl ?_
  have hM := St.enter oL hS
  have hM := hM.addE (r := rV s_o.v (cSl 3 fDPart o)) a_o_0
  refine wc_seq ?_
  refine wc_region ?_
  refine wv rfl (r_assign rfl) ?_
  refine wv rfl (r_assign rfl) ?_
  refine wl_nil ?_
  refine sq_n ?_
  refine wc_seq ?_
  refine wc_seq ?_
  refine wc_region ?_
  refine wv rfl (r_move rfl) ?_
  obtain ⟨r22, h23, hx⟩ := bind_some' hx
  refine w_call rfl rfl (hM.callV fun X S oL hS hR hO => ct_impl_OpOk _ X S o s_o hS (hR _ (.head _)) oL h23) ?_
  rintro _ w24 ⟨rfl, hR25⟩
  have hM := hM.call hR25
  refine wv rfl (r_not rfl) ?_
  refine wl_nil ?_
  refine sq_n ?_
  refine wc_cond rfl (fun hc27 => ?_) (fun hc27 => ?_)
  · replace hx := xif_t hc27 hx
    refine wc_seq ?_
    refine wc_region ?_
    refine wv rfl (r_assign rfl) ?_
    refine wv rfl (r_assign rfl) ?_
    refine wl_nil ?_
    refine sq_n ?_
    refine wc_ret ?_
    refine sq_ret ?_
    obtain rfl := Option.some.inj hx
    have hM := hM.nil0 (T := DPart) 3 fDPart
    refine fin_ret [nS.v, (.bool false)] ⟨rfl, rfl, trivial⟩ ?_
    replace hM : St ⟨w, X, S⟩ [oC (cSl 3 fDPart ([] : List DPart)) nS.v] [rV s_o.v (cSl 3 fDPart o)] _ := hM.tk 1
    have hM := hM.fewer rsN
    exact ⟨nS, rfl, hM.gives⟩
  · replace hx := xif_f hc27 hx
    refine wc_skip ?_
    refine sq_n ?_
    refine wc_seq ?_
    refine wc_region ?_
    refine wv rfl (r_move rfl) ?_
    obtain ⟨r32, h33, hx⟩ := bind_some' hx
    refine w_call rfl rfl (hM.callO (l := []) fun X S oL hS hR hO => ct_impl_OpNorm _ X S o s_o hS (hR _ (.head _)) oL h33) ?_
    rintro _ w34 ⟨s35, rfl, hM⟩
    replace hM : St ⟨w, X, S⟩ [oC (cSl 3 fDPart r32) s35.v] [rV s_o.v (cSl 3 fDPart o)] _ := hM
    refine wv rfl (r_assign rfl) ?_
    refine wv rfl (r_assign rfl) ?_
    refine wl_nil ?_
    refine sq_n ?_
    refine wc_ret ?_
    obtain rfl := Option.some.inj hx
    refine fin_ret [s35.v, (.bool true)] ⟨rfl, rfl, trivial⟩ ?_
    replace hM : St ⟨w, X, S⟩ [oC (cSl 3 fDPart r32) s35.v] [rV s_o.v (cSl 3 fDPart o)] _ := hM.tk 1
    have hM := hM.fewer rsN
    exact ⟨s35, rfl, hM.gives⟩

noncomputable def x_impl_PutAt (n : Int) (at_ : Int) (l : List Int) : Option (List DPart × Bool) :=
  Option.bind (x_impl_within at_ 0 n) fun r5 => bif !r5 then (some ([], false)) else (xg (inI (n - at_)) <| Option.bind (x_impl_normalOr [(⟨1, at_, []⟩ : DPart), (⟨2, 0, l⟩ : DPart), (⟨1, n - at_, []⟩ : DPart)]) fun r25 => some (r25.1, r25.2))
theorem ct_impl_PutAt (w : World) (X S : Bs) (n : Int) (at_ : Int) (l : List Int) (s_l : Sv) (hS : ∀ b, S b → b < w.heap.size ∧ ¬ X b) (a_l_0 : (cSl 1 fI l).rd S w s_l.v) (oL : Sep [] X w) {r : List DPart × Bool} (hx : x_impl_PutAt n at_ l = some r) :
    Ret Try.prog 75 [(.int .i64 n), (.int .i64 at_), s_l.v] w (fun u w' => ∃ y : Sv, u = .tuple #[y.v, (.bool r.2)] ∧ Gives X S w [oC (cSl 3 fDPart r.1) y.v] [] w') := by
  unfold x_impl_PutAt at hx
  refine enter Try.func75 rfl Try.ntmps75 (by kernel_rfl) rfl ?_
  have hM := St.enter oL hS
  have hM := hM.addE (r := rV s_l.v (cSl 1 fI l)) a_l_0
  refine wc_seq ?_
  refine wc_region ?_
  refine wv rfl (r_assign rfl) ?_
  refine wv rfl (r_assign rfl) ?_
  refine wl_nil ?_
  refine sq_n ?_
  refine wc_seq ?_
  refine wc_seq ?_
  refine wc_region ?_
  refine wv rfl (r_move rfl) ?_
  refine wv rfl (r_move rfl) ?_
  obtain ⟨r38, h39, hx⟩ := bind_some' hx
  refine w_call rfl rfl (hM.callV fun X S oL hS hR hO => ct_impl_within _ X S at_ (0 : Int) n hS  oL h39) ?_
  rintro _ w40 ⟨rfl, hR41⟩
  have hM := hM.call hR41
  refine wv rfl (r_not rfl) ?_
  refine wl_nil ?_
  refine sq_n ?_
  refine wc_cond rfl (fun hc43 => ?_) (fun hc43 => ?_)
  · replace hx := xif_t hc43 hx
    refine wc_seq ?_
    refine wc_region ?_
    refine wv rfl (r_assign rfl) ?_
    refine wv rfl (r_assign rfl) ?_
    refine wl_nil ?_
    refine sq_n ?_
    refine wc_ret ?_
    refine sq_ret ?_
    obtain rfl := Option.some.inj hx
    have hM := hM.nil0 (T := DPart) 3 fDPart
    refine fin_ret [nS.v, (.bool false)] ⟨rfl, rfl, trivial⟩ ?_
    replace hM : St ⟨w, X, S⟩ [oC (cSl 3 fDPart ([] : List DPart)) nS.v] [rV s_l.v (cSl 1 fI l)] _ := hM.tk 1
    have hM := hM.fewer rsN
    exact ⟨nS, rfl, hM.gives⟩
  · replace hx := xif_f hc43 hx
    refine wc_skip ?_
    refine sq_n ?_
    refine wc_seq ?_
    refine wc_region ?_
    refine wv rfl (r_move rfl) ?_
    refine wv rfl (r_build (cells := #[(.int .i64 1), (.int .i64 at_), (.slice none 0 0)]) rfl (by kernel_rfl)) ?_
    refine wv rfl (r_move rfl) ?_
    refine wv rfl (r_build (cells := #[(.int .i64 2), (.int .i64 0), s_l.v]) rfl (by kernel_rfl)) ?_
    refine wv rfl (r_move rfl) ?_
    refine wv rfl (r_move rfl) ?_
    obtain ⟨hg54, hx⟩ := xg_some hx
    refine wv rfl (r_sub rfl rfl hg54) ?_
    refine wv rfl (r_build (cells := #[(.int .i64 1), (.int .i64 (n - at_)), (.slice none 0 0)]) rfl (by kernel_rfl)) ?_
    refine w_ex rfl (x_litS (f := fDPart) [(⟨1, at_, []⟩ : DPart), (⟨2, 0, l⟩ : DPart), (⟨1, n - at_, []⟩ : DPart)] [(.int .i64 1), (.int .i64 at_), (.slice none 0 0), (.int .i64 2), (.int .i64 0), s_l.v, (.int .i64 1), (.int .i64 (n - at_)), (.slice none 0 0)] 3 Try.underlying26 sz79 rfl rfl rfl rfl rfl (by kernel_rfl) (fun S w hR => ⟨_, _, rfl, rfl, ⟨_, _, rfl, rfl, ⟨_, _, rfl, rd_nil _ _, ⟨_, _, rfl, rfl, ⟨_, _, rfl, rfl, ⟨_, _, rfl, hR _ (.head _), ⟨_, _, rfl, rfl, ⟨_, _, rfl, rfl, ⟨_, _, rfl, rd_nil _ _, rfl⟩⟩⟩⟩⟩⟩⟩⟩⟩) hM ?_); intro s57 w56 hR58 hM
    have hM := hM.sealS (fun _ => rfl) (.head _)
    obtain ⟨r60, h61, hx⟩ := bind_some' hx
    refine w_call rfl rfl (hM.callO (l := []) fun X S oL hS hR hO => ct_impl_normalOr _ X S [(⟨1, at_, []⟩ : DPart), (⟨2, 0, l⟩ : DPart), (⟨1, n - at_, []⟩ : DPart)] s57 hS (hR _ (.head _)) oL h61) ?_
    rintro _ w62 ⟨s63, rfl, hM⟩
    replace hM : St ⟨w, X, S⟩ [oC (cSl 3 fDPart r60.1) s63.v] [rV s57.v (cSl 3 fDPart [(⟨1, at_, []⟩ : DPart), (⟨2, 0, l⟩ : DPart), (⟨1, n - at_, []⟩ : DPart)]), rX [(.int .i64 1), (.int .i64 at_), (.slice none 0 0), (.int .i64 2), (.int .i64 0), s_l.v, (.int .i64 1), (.int .i64 (n - at_)), (.slice none 0 0)] (([(⟨1, at_, []⟩ : DPart), (⟨2, 0, l⟩ : DPart), (⟨1, n - at_, []⟩ : DPart)] : List DPart).flatMap fDPart), rV s_l.v (cSl 1 fI l)] _ := hM
    refine wv rfl (r_extract rfl rfl) ?_
    refine wv rfl (r_extract rfl rfl) ?_
    refine wv rfl (r_assign rfl) ?_
    refine wv rfl (r_assign rfl) ?_
    refine wl_nil ?_
    refine sq_n ?_
    refine wc_ret ?_
    obtain rfl := Option.some.inj hx
    refine fin_ret [s63.v, (.bool r60.2)] ⟨rfl, rfl, trivial⟩ ?_
    replace hM : St ⟨w, X, S⟩ [oC (cSl 3 fDPart r60.1) s63.v] [rV s57.v (cSl 3 fDPart [(⟨1, at_, []⟩ : DPart), (⟨2, 0, l⟩ : DPart), (⟨1, n - at_, []⟩ : DPart)]), rX [(.int .i64 1), (.int .i64 at_), (.slice none 0 0), (.int .i64 2), (.int .i64 0), s_l.v, (.int .i64 1), (.int .i64 (n - at_)), (.slice none 0 0)] (([(⟨1, at_, []⟩ : DPart), (⟨2, 0, l⟩ : DPart), (⟨1, n - at_, []⟩ : DPart)] : List DPart).flatMap fDPart), rV s_l.v (cSl 1 fI l)] _ := hM.tk 1
    have hM := hM.fewer rsN
    exact ⟨s63, rfl, hM.gives⟩

noncomputable def x_spec_l06Op (n : Int) (at_ : Int) (l : List Int) (many : Int) : Option (List DPart × Bool) :=
  Option.bind (x_spec_l01In n 0 200) fun r4 => Option.bind (bif !r4 then (some true) else (Option.bind (x_spec_l01In at_ 0 n) fun r21 => some (!r21))) fun c10 => Option.bind (bif c10 then (some true) else (xg (inI (n - at_)) <| Option.bind (x_spec_l01In many 0 (n - at_)) fun r44 => some (!r44))) fun c27 => Option.bind (bif c27 then (some true) else (Option.bind (x_spec_SignsOk l) fun r59 => some (!r59))) fun c50 => Option.bind (bif c50 then (some true) else (some (decide ((200 : Int) < (l.length : Int))))) fun c65 => bif c65 then (some ([], false)) else (Option.bind (x_spec_l02Keep (⟨[], [], 0⟩ : DL02B) at_) fun r85 => Option.bind (x_spec_l02Put r85 l) fun r92 => Option.bind (x_spec_l02Drop r92 many) fun r99 => xg (inI (n - at_)) <| xg (inI ((n - at_) - many)) <| Option.bind (x_spec_l02Keep r99 ((n - at_) - many)) fun r112 => Option.bind (x_spec_l02Done r112) fun r118 => Option.bind (x_spec_OpOk r118.1) fun r127 => bif !r127 then (some ([], false)) else (some (r118.1, true)))
theorem ct_spec_l06Op (w : World) (X S : Bs) (n : Int) (at_ : Int) (l : List Int) (s_l : Sv) (many : Int) (hS : ∀ b, S b → b < w.heap.size ∧ ¬ X b) (a_l_0 : (cSl 1 fI l).rd S w s_l.v) (oL : Sep [] X w) {r : List DPart × Bool} (hx : x_spec_l06Op n at_ l many = some r) :
    Ret Try.prog 121 [(.int .i64 n), (.int .i64 at_), s_l.v, (.int .i64 many)] w (fun u w' => ∃ y : Sv, u = .tuple #[y.v, (.bool r.2)] ∧ Gives X S w [oC (cSl 3 fDPart r.1) y.v] [] w') := by
  unfold x_spec_l06Op at hx
  refine enter Try.func121 rfl Try.ntmps121 (by kernel_rfl) rfl ?_
  have hM := St.enter oL hS
  have hM := hM.addE (r := rV s_l.v (cSl 1 fI l)) a_l_0
  refine wc_seq ?_
  refine wc_region ?_
  refine wv rfl (r_assign rfl) ?_
  refine wv rfl (r_assign rfl) ?_
  refine wl_nil ?_
  refine sq_n ?_
  refine wc_seq ?_
  refine wc_seq ?_
  refine wc_region ?_
  refine wv rfl (r_move rfl) ?_
  obtain ⟨r140, h141, hx⟩ := bind_some' hx
  refine w_call rfl rfl (hM.callV fun X S oL hS hR hO => ct_spec_l01In _ X S n (0 : Int) (200 : Int) hS  oL h141) ?_
  rintro _ w142 ⟨rfl, hR143⟩
  have hM := hM.call hR143
  refine wv rfl (r_not rfl) ?_
  refine wv rfl (r_move rfl) ?_
  obtain ⟨c146, hx, hx155⟩ := bind_some' hx
  refine wl_mid 5 (fun _ : Unit => [(20, (.bool c146)), (0, (.int .i64 n)), (1, (.int .i64 at_)), (2, s_l.v), (3, (.int .i64 many))]) (fun _ w' => St ⟨w, X, S⟩ [] [rV s_l.v (cSl 1 fI l)] w') ?_ ?_
  · rcases Bool.eq_false_or_eq_true (!r140) with hg147 | hg147
    · replace hx := xif_t hg147 hx
      refine gs rfl (isB_no hg147) rfl ?_
      refine gs rfl (isB_no hg147) rfl ?_
      refine gs rfl (isB_no hg147) rfl ?_
      refine gs rfl (isB_no hg147) rfl ?_
      refine wv rfl (p_t rfl hg147 rfl) ?_
      obtain rfl := Option.some.inj hx
      exact mid_nil () ⟨rfl, rfl, rfl, rfl, rfl, trivial⟩ hM
    · replace hx := xif_f hg147 hx
      refine gv rfl hg147 rfl (r_move rfl) ?_
      refine gv rfl hg147 rfl (r_move rfl) ?_
      obtain ⟨r158, h159, hx⟩ := bind_some' hx
      refine gc rfl hg147 rfl rfl (hM.callV fun X S oL hS hR hO => ct_spec_l01In _ X S at_ (0 : Int) n hS  oL h159) ?_
      rintro _ w160 ⟨rfl, hR161⟩
      have hM := hM.call hR161
      refine gv rfl hg147 rfl (r_not rfl) ?_
      refine wv rfl (p_f rfl hg147 rfl) ?_
      obtain rfl := Option.some.inj hx
      exact mid_nil () ⟨rfl, rfl, rfl, rfl, rfl, trivial⟩ hM
  rintro _ w163 hM
  replace hx := hx155
  refine wv rfl (r_move rfl) ?_
  obtain ⟨c165, hx, hx177⟩ := bind_some' hx
  refine wl_mid 7 (fun _ : Unit => [(28, (.bool c165)), (0, (.int .i64 n)), (1, (.int .i64 at_)), (2, s_l.v), (3, (.int .i64 many))]) (fun _ w' => St ⟨w, X, S⟩ [] [rV s_l.v (cSl 1 fI l)] w') ?_ ?_
  · rcases Bool.eq_false_or_eq_true c146 with hg166 | hg166
    · replace hx := xif_t hg166 hx
      refine gs rfl (isB_no hg166) rfl ?_
      refine gs rfl (isB_no hg166) rfl ?_
      refine gs rfl (isB_no hg166) rfl ?_
      refine gs rfl (isB_no hg166) rfl ?_
      refine gs rfl (isB_no hg166) rfl ?_
      refine gs rfl (isB_no hg166) rfl ?_
      refine wv rfl (p_t rfl hg166 rfl) ?_
      obtain rfl := Option.some.inj hx
      exact mid_nil () ⟨rfl, rfl, rfl, rfl, rfl, trivial⟩ hM
    · replace hx := xif_f hg166 hx
      refine gv rfl hg166 rfl (r_move rfl) ?_
      refine gv rfl hg166 rfl (r_move rfl) ?_
      refine gv rfl hg166 rfl (r_move rfl) ?_
      obtain ⟨hg182, hx⟩ := xg_some hx
      refine gv rfl hg166 rfl (r_sub rfl rfl hg182) ?_
      obtain ⟨r183, h184, hx⟩ := bind_some' hx
      refine gc rfl hg166 rfl rfl (hM.callV fun X S oL hS hR hO => ct_spec_l01In _ X S many (0 : Int) (n - at_) hS  oL h184) ?_
      rintro _ w185 ⟨rfl, hR186⟩
      have hM := hM.call hR186
      refine gv rfl hg166 rfl (r_not rfl) ?_
      refine wv rfl (p_f rfl hg166 rfl) ?_
      obtain rfl := Option.some.inj hx
      exact mid_nil () ⟨rfl, rfl, rfl, rfl, rfl, trivial⟩ hM
  rintro _ w188 hM
  replace hx := hx177
  refine wv rfl (r_move rfl) ?_
  obtain ⟨c190, hx, hx198⟩ := bind_some' hx
  refine wl_mid 4 (fun _ : Unit => [(33, (.bool c190)), (0, (.int .i64 n)), (1, (.int .i64 at_)), (2, s_l.v), (3, (.int .i64 many))]) (fun _ w' => St ⟨w, X, S⟩ [] [rV s_l.v (cSl 1 fI l)] w') ?_ ?_
  · rcases Bool.eq_false_or_eq_true c165 with hg191 | hg191
    · replace hx := xif_t hg191 hx
      refine gs rfl (isB_no hg191) rfl ?_
      refine gs rfl (isB_no hg191) rfl ?_
      refine gs rfl (isB_no hg191) rfl ?_
      refine wv rfl (p_t rfl hg191 rfl) ?_
      obtain rfl := Option.some.inj hx
      exact mid_nil () ⟨rfl, rfl, rfl, rfl, rfl, trivial⟩ hM
    · replace hx := xif_f hg191 hx
      refine gv rfl hg191 rfl (r_move rfl) ?_
      obtain ⟨r200, h201, hx⟩ := bind_some' hx
      refine gc rfl hg191 rfl rfl (hM.callV fun X S oL hS hR hO => ct_spec_SignsOk _ X S l s_l hS (hR _ (.head _)) oL h201) ?_
      rintro _ w202 ⟨rfl, hR203⟩
      have hM := hM.call hR203
      refine gv rfl hg191 rfl (r_not rfl) ?_
      refine wv rfl (p_f rfl hg191 rfl) ?_
      obtain rfl := Option.some.inj hx
      exact mid_nil () ⟨rfl, rfl, rfl, rfl, rfl, trivial⟩ hM
  rintro _ w205 hM
  replace hx := hx198
  refine wv rfl (r_move rfl) ?_
  obtain ⟨c207, hx, hx212⟩ := bind_some' hx
  refine wl_mid 4 (fun _ : Unit => [(38, (.bool c207)), (0, (.int .i64 n)), (1, (.int .i64 at_)), (2, s_l.v), (3, (.int .i64 many))]) (fun _ w' => St ⟨w, X, S⟩ [] [rV s_l.v (cSl 1 fI l)] w') ?_ ?_
  · rcases Bool.eq_false_or_eq_true c190 with hg208 | hg208
    · replace hx := xif_t hg208 hx
      refine gs rfl (isB_no hg208) rfl ?_
      refine gs rfl (isB_no hg208) rfl ?_
      refine gs rfl (isB_no hg208) rfl ?_
      refine wv rfl (p_t rfl hg208 rfl) ?_
      obtain rfl := Option.some.inj hx
      exact mid_nil () ⟨rfl, rfl, rfl, rfl, rfl, trivial⟩ hM
    · replace hx := xif_f hg208 hx
      refine gv rfl hg208 rfl (r_move rfl) ?_
      refine gv rfl hg208 rfl (r_lenC Try.underlying24 rfl (hM.seeR (.head _))) ?_
      refine gv rfl hg208 rfl (r_gtr rfl rfl) ?_
      refine wv rfl (p_f rfl hg208 rfl) ?_
      obtain rfl := Option.some.inj hx
      exact mid_nil () ⟨rfl, rfl, rfl, rfl, rfl, trivial⟩ hM
  rintro _ w216 hM
  replace hx := hx212
  refine wl_nil ?_
  refine sq_n ?_
  refine wc_cond rfl (fun hc217 => ?_) (fun hc217 => ?_)
  · replace hx := xif_t hc217 hx
    refine wc_seq ?_
    refine wc_region ?_
    refine wv rfl (r_assign rfl) ?_
    refine wv rfl (r_assign rfl) ?_
    refine wl_nil ?_
    refine sq_n ?_
    refine wc_ret ?_
    refine sq_ret ?_
    obtain rfl := Option.some.inj hx
    have hM := hM.nil0 (T := DPart) 3 fDPart
    refine fin_ret [nS.v, (.bool false)] ⟨rfl, rfl, trivial⟩ ?_
    replace hM : St ⟨w, X, S⟩ [oC (cSl 3 fDPart ([] : List DPart)) nS.v] [rV s_l.v (cSl 1 fI l)] _ := hM.tk 1
    have hM := hM.fewer rsN
    exact ⟨nS, rfl, hM.gives⟩
  · replace hx := xif_f hc217 hx
    refine wc_skip ?_
    refine sq_n ?_
    refine wc_seq ?_
    refine wc_region ?_
    refine wv rfl (r_build (cells := #[(.slice none 0 0), (.slice none 0 0), (.int .i64 0)]) rfl (by kernel_rfl)) ?_
    refine w_ex rfl (x_box rfl hM ?_); intro b223 w222 hR224 hM
    replace hM : St ⟨w, X, S⟩ [oBox b223 #[(.slice none 0 0), (.slice none 0 0), (.int .i64 0)] 114] [rV s_l.v (cSl 1 fI l)] _ := hM
    refine wv rfl (r_assign rfl) ?_
    refine wl_nil ?_
    refine sq_n ?_
    refine wc_seq ?_
    refine wc_region ?_
    refine wv rfl (r_move rfl) ?_
    refine wv rfl (r_move rfl) ?_
    have hM := hM.nil0 (T := DPart) 3 fDPart
    have hM := hM.nil0 (T := Int) 1 fI
    replace hM : St ⟨w, X, S⟩ [oBox b223 #[nS.v, nS.v, (.int .i64 0)] 114, oC (cSl 3 fDPart ([] : List DPart)) nS.v, oC (cSl 1 fI ([] : List Int)) nS.v] [rV s_l.v (cSl 1 fI l)] _ := hM.pl [0, 1, 2]
    obtain ⟨r231, h232, hx⟩ := bind_some' hx
    refine w_call rfl rfl (hM.callO (l := [oBox b223 #[nS.v, nS.v, (.int .i64 0)] 114, oC (cSl 3 fDPart ([] : List DPart)) nS.v, oC (cSl 1 fI ([] : List Int)) nS.v]) fun X S oL hS hR hO => ct_spec_l02Keep _ X S b223 (⟨[], [], 0⟩ : DL02B) nS nS at_ hS  oL h232) ?_
    rintro _ w233 ⟨⟨s234, s235⟩, rfl, hM⟩
    replace hM : St ⟨w, X, S⟩ [oBox b223 #[s234.v, s235.v, (.int .i64 r231.drop)] 114, oC (cSl 3 fDPart r231.list) s234.v, oC (cSl 1 fI r231.put) s235.v] [rV s_l.v (cSl 1 fI l)] _ := hM
    refine wl_nil ?_
    refine sq_n ?_
    refine wc_seq ?_
    refine wc_region ?_
    refine wv rfl (r_move rfl) ?_
    refine wv rfl (r_move rfl) ?_
    obtain ⟨r238, h239, hx⟩ := bind_some' hx
    refine w_call rfl rfl (hM.callO (l := [oBox b223 #[s234.v, s235.v, (.int .i64 r231.drop)] 114, oC (cSl 3 fDPart r231.list) s234.v, oC (cSl 1 fI r231.put) s235.v]) fun X S oL hS hR hO => ct_spec_l02Put _ X S b223 r231 s234 s235 l s_l hS (hR _ (.head _)) oL h239) ?_
    rintro _ w240 ⟨⟨s241, s242⟩, rfl, hM⟩
    replace hM : St ⟨w, X, S⟩ [oBox b223 #[s241.v, s242.v, (.int .i64 r238.drop)] 114, oC (cSl 3 fDPart r238.list) s241.v, oC (cSl 1 fI r238.put) s242.v] [rV s_l.v (cSl 1 fI l)] _ := hM
    refine wl_nil ?_
    refine sq_n ?_
    refine wc_seq ?_
    refine wc_region ?_
    refine wv rfl (r_move rfl) ?_
    refine wv rfl (r_move rfl) ?_
    obtain ⟨r245, h246, hx⟩ := bind_some' hx
    refine w_call rfl rfl (hM.callO (l := [oBox b223 #[s241.v, s242.v, (.int .i64 r238.drop)] 114, oC (cSl 3 fDPart r238.list) s241.v, oC (cSl 1 fI r238.put) s242.v]) fun X S oL hS hR hO => ct_spec_l02Drop _ X S b223 r238 s241 s242 many hS  oL h246) ?_
    rintro _ w247 ⟨⟨s248, s249⟩, rfl, hM⟩
    replace hM : St ⟨w, X, S⟩ [oBox b223 #[s248.v, s249.v, (.int .i64 r245.drop)] 114, oC (cSl 3 fDPart r245.list) s248.v, oC (cSl 1 fI r245.put) s249.v] [rV s_l.v (cSl 1 fI l)] _ := hM
    refine wl_nil ?_
    refine sq_n ?_
    refine wc_seq ?_
    refine wc_region ?_
    refine wv rfl (r_move rfl) ?_
    refine wv rfl (r_move rfl) ?_
    refine wv rfl (r_move rfl) ?_
    obtain ⟨hg254, hx⟩ := xg_some hx
    refine wv rfl (r_sub rfl rfl hg254) ?_
    refine wv rfl (r_move rfl) ?_
    obtain ⟨hg257, hx⟩ := xg_some hx
    refine wv rfl (r_sub rfl rfl hg257) ?_
    obtain ⟨r258, h259, hx⟩ := bind_some' hx
    refine w_call rfl rfl (hM.callO (l := [oBox b223 #[s248.v, s249.v, (.int .i64 r245.drop)] 114, oC (cSl 3 fDPart r245.list) s248.v, oC (cSl 1 fI r245.put) s249.v]) fun X S oL hS hR hO => ct_spec_l02Keep _ X S b223 r245 s248 s249 ((n - at_) - many) hS  oL h259) ?_
    rintro _ w260 ⟨⟨s261, s262⟩, rfl, hM⟩
    replace hM : St ⟨w, X, S⟩ [oBox b223 #[s261.v, s262.v, (.int .i64 r258.drop)] 114, oC (cSl 3 fDPart r258.list) s261.v, oC (cSl 1 fI r258.put) s262.v] [rV s_l.v (cSl 1 fI l)] _ := hM
    refine wl_nil ?_
    refine sq_n ?_
    refine wc_seq ?_
    refine wc_region ?_
    refine wv rfl (r_move rfl) ?_
    obtain ⟨r264, h265, hx⟩ := bind_some' hx
    refine w_call rfl rfl (hM.callO (l := [oBox b223 #[s261.v, s262.v, (.int .i64 r258.drop)] 114, oC (cSl 3 fDPart r258.list) s261.v, oC (cSl 1 fI r258.put) s262.v]) fun X S oL hS hR hO => ct_spec_l02Done _ X S b223 r258 s261 s262 hS  oL h265) ?_
    rintro _ w266 ⟨⟨s267, s268, s269⟩, rfl, hM⟩
    replace hM : St ⟨w, X, S⟩ [oC (cSl 3 fDPart r264.1) s267.v, oBox b223 #[s268.v, s269.v, (.int .i64 r264.2.drop)] 114, oC (cSl 1 fI r264.2.put) s269.v] [rV s_l.v (cSl 1 fI l)] _ := hM
    refine wv rfl (r_assign rfl) ?_
    refine wl_nil ?_
    refine sq_n ?_
    refine wc_seq ?_
    refine wc_seq ?_
    refine wc_region ?_
    refine wv rfl (r_move rfl) ?_
    obtain ⟨r273, h274, hx⟩ := bind_some' hx
    refine w_call rfl rfl (hM.callV fun X S oL hS hR hO => ct_spec_OpOk _ X S r264.1 s267 hS (seeA hO (.head _)) oL h274) ?_
    rintro _ w275 ⟨rfl, hR276⟩
    have hM := hM.call hR276
    refine wv rfl (r_not rfl) ?_
    refine wl_nil ?_
    refine sq_n ?_
    refine wc_cond rfl (fun hc278 => ?_) (fun hc278 => ?_)
    · replace hx := xif_t hc278 hx
      refine wc_seq ?_
      refine wc_region ?_
      refine wv rfl (r_assign rfl) ?_
      refine wv rfl (r_assign rfl) ?_
      refine wl_nil ?_
      refine sq_n ?_
      refine wc_ret ?_
      refine sq_ret ?_
      obtain rfl := Option.some.inj hx
      have hM := hM.nil0 (T := DPart) 3 fDPart
      refine fin_ret [nS.v, (.bool false)] ⟨rfl, rfl, trivial⟩ ?_
      replace hM : St ⟨w, X, S⟩ [oC (cSl 3 fDPart ([] : List DPart)) nS.v] [rV s_l.v (cSl 1 fI l)] _ := hM.tk 1
      have hM := hM.fewer rsN
      exact ⟨nS, rfl, hM.gives⟩
    · replace hx := xif_f hc278 hx
      refine wc_skip ?_
      refine sq_n ?_
      refine wc_seq ?_
      refine wc_region ?_
      refine wv rfl (r_move rfl) ?_
      refine wv rfl (r_assign rfl) ?_
      refine wv rfl (r_assign rfl) ?_
      refine wl_nil ?_
      refine sq_n ?_
      refine wc_ret ?_
      obtain rfl := Option.some.inj hx
      refine fin_ret [s267.v, (.bool true)] ⟨rfl, rfl, trivial⟩ ?_
      replace hM : St ⟨w, X, S⟩ [oC (cSl 3 fDPart r264.1) s267.v] [rV s_l.v (cSl 1 fI l)] _ := hM.tk 1
      have hM := hM.fewer rsN
      exact ⟨s267, rfl, hM.gives⟩

noncomputable def x_spec_PutAt (n : Int) (at_ : Int) (l : List Int) : Option (List DPart × Bool) :=
  Option.bind (x_spec_l06Op n at_ l 0) fun r6 => some (r6.1, r6.2)
theorem ct_spec_PutAt (w : World) (X S : Bs) (n : Int) (at_ : Int) (l : List Int) (s_l : Sv) (hS : ∀ b, S b → b < w.heap.size ∧ ¬ X b) (a_l_0 : (cSl 1 fI l).rd S w s_l.v) (oL : Sep [] X w) {r : List DPart × Bool} (hx : x_spec_PutAt n at_ l = some r) :
    Ret Try.prog 70 [(.int .i64 n), (.int .i64 at_), s_l.v] w (fun u w' => ∃ y : Sv, u = .tuple #[y.v, (.bool r.2)] ∧ Gives X S w [oC (cSl 3 fDPart r.1) y.v] [] w') := by
  unfold x_spec_PutAt at hx
  refine enter Try.func70 rfl Try.ntmps70 (by kernel_rfl) rfl ?_
  have hM := St.enter oL hS
  have hM := hM.addE (r := rV s_l.v (cSl 1 fI l)) a_l_0
  refine wc_seq ?_
  refine wc_region ?_
  refine wv rfl (r_assign rfl) ?_
  refine wv rfl (r_assign rfl) ?_
  refine wl_nil ?_
  refine sq_n ?_
  refine wc_seq ?_
  refine wc_region ?_
  refine wv rfl (r_move rfl) ?_
  refine wv rfl (r_move rfl) ?_
  refine wv rfl (r_move rfl) ?_
  obtain ⟨r20, h21, hx⟩ := bind_some' hx
  refine w_call rfl rfl (hM.callO (l := []) fun X S oL hS hR hO => ct_spec_l06Op _ X S n at_ l s_l (0 : Int) hS (hR _ (.head _)) oL h21) ?_
  rintro _ w22 ⟨s23, rfl, hM⟩
  replace hM : St ⟨w, X, S⟩ [oC (cSl 3 fDPart r20.1) s23.v] [rV s_l.v (cSl 1 fI l)] _ := hM
  refine wv rfl (r_extract rfl rfl) ?_
  refine wv rfl (r_extract rfl rfl) ?_
  refine wv rfl (r_assign rfl) ?_
  refine wv rfl (r_assign rfl) ?_
  refine wl_nil ?_
  refine sq_n ?_
  refine wc_ret ?_
  obtain rfl := Option.some.inj hx
  refine fin_ret [s23.v, (.bool r20.2)] ⟨rfl, rfl, trivial⟩ ?_
  replace hM : St ⟨w, X, S⟩ [oC (cSl 3 fDPart r20.1) s23.v] [rV s_l.v (cSl 1 fI l)] _ := hM.tk 1
  have hM := hM.fewer rsN
  exact ⟨s23, rfl, hM.gives⟩

noncomputable def x_impl_DropAt (n : Int) (at_ : Int) (many : Int) : Option (List DPart × Bool) :=
  Option.bind (x_impl_within at_ 0 n) fun r5 => Option.bind (bif !r5 then (some true) else (xg (inI (n - at_)) <| Option.bind (x_impl_within many 0 (n - at_)) fun r28 => some (!r28))) fun c11 => bif c11 then (some ([], false)) else (xg (inI (n - at_)) <| xg (inI ((n - at_) - many)) <| Option.bind (x_impl_normalOr [(⟨1, at_, []⟩ : DPart), (⟨3, many, []⟩ : DPart), (⟨1, (n - at_) - many, []⟩ : DPart)]) fun r51 => some (r51.1, r51.2))
theorem ct_impl_DropAt (w : World) (X S : Bs) (n : Int) (at_ : Int) (many : Int) (hS : ∀ b, S b → b < w.heap.size ∧ ¬ X b)  (oL : Sep [] X w) {r : List DPart × Bool} (hx : x_impl_DropAt n at_ many = some r) :
    Ret Try.prog 80 [(.int .i64 n), (.int .i64 at_), (.int .i64 many)] w (fun u w' => ∃ y : Sv, u = .tuple #[y.v, (.bool r.2)] ∧ Gives X S w [oC (cSl 3 fDPart r.1) y.v] [] w') := by
  unfold x_impl_DropAt at hx
  refine enter Try.func80 rfl Try.ntmps80 (by kernel_rfl) rfl ?_
  have hM := St.enter oL hS
  refine wc_seq ?_
  refine wc_region ?_
  refine wv rfl (r_assign rfl) ?_
  refine wv rfl (r_assign rfl) ?_
  refine wl_nil ?_
  refine sq_n ?_
  refine wc_seq ?_
  refine wc_seq ?_
  refine wc_region ?_
  refine wv rfl (r_move rfl) ?_
  refine wv rfl (r_move rfl) ?_
  obtain ⟨r64, h65, hx⟩ := bind_some' hx
  refine w_call rfl rfl (hM.callV fun X S oL hS hR hO => ct_impl_within _ X S at_ (0 : Int) n hS  oL h65) ?_
  rintro _ w66 ⟨rfl, hR67⟩
  have hM := hM.call hR67
  refine wv rfl (r_not rfl) ?_
  refine wv rfl (r_move rfl) ?_
  obtain ⟨c70, hx, hx82⟩ := bind_some' hx
  refine wl_mid 7 (fun _ : Unit => [(19, (.bool c70)), (0, (.int .i64 n)), (1, (.int .i64 at_)), (2, (.int .i64 many))]) (fun _ w' => St ⟨w, X, S⟩ [] [] w') ?_ ?_
  · rcases Bool.eq_false_or_eq_true (!r64) with hg71 | hg71
    · replace hx := xif_t hg71 hx
      refine gs rfl (isB_no hg71) rfl ?_
      refine gs rfl (isB_no hg71) rfl ?_
      refine gs rfl (isB_no hg71) rfl ?_
      refine gs rfl (isB_no hg71) rfl ?_
      refine gs rfl (isB_no hg71) rfl ?_
      refine gs rfl (isB_no hg71) rfl ?_
      refine wv rfl (p_t rfl hg71 rfl) ?_
      obtain rfl := Option.some.inj hx
      exact mid_nil () ⟨rfl, rfl, rfl, rfl, trivial⟩ hM
    · replace hx := xif_f hg71 hx
      refine gv rfl hg71 rfl (r_move rfl) ?_
      refine gv rfl hg71 rfl (r_move rfl) ?_
      refine gv rfl hg71 rfl (r_move rfl) ?_
      obtain ⟨hg87, hx⟩ := xg_some hx
      refine gv rfl hg71 rfl (r_sub rfl rfl hg87) ?_
      obtain ⟨r88, h89, hx⟩ := bind_some' hx
      refine gc rfl hg71 rfl rfl (hM.callV fun X S oL hS hR hO => ct_impl_within _ X S many (0 : Int) (n - at_) hS  oL h89) ?_
      rintro _ w90 ⟨rfl, hR91⟩
      have hM := hM.call hR91
      refine gv rfl hg71 rfl (r_not rfl) ?_
      refine wv rfl (p_f rfl hg71 rfl) ?_
      obtain rfl := Option.some.inj hx
      exact mid_nil () ⟨rfl, rfl, rfl, rfl, trivial⟩ hM
  rintro _ w93 hM
  replace hx := hx82
  refine wl_nil ?_
  refine sq_n ?_
  refine wc_cond rfl (fun hc94 => ?_) (fun hc94 => ?_)
  · replace hx := xif_t hc94 hx
    refine wc_seq ?_
    refine wc_region ?_
    refine wv rfl (r_assign rfl) ?_
    refine wv rfl (r_assign rfl) ?_
    refine wl_nil ?_
    refine sq_n ?_
    refine wc_ret ?_
    refine sq_ret ?_
    obtain rfl := Option.some.inj hx
    have hM := hM.nil0 (T := DPart) 3 fDPart
    refine fin_ret [nS.v, (.bool false)] ⟨rfl, rfl, trivial⟩ ?_
    replace hM : St ⟨w, X, S⟩ [oC (cSl 3 fDPart ([] : List DPart)) nS.v] [] _ := hM.tk 1
    have hM := hM.fewer rsN
    exact ⟨nS, rfl, hM.gives⟩
  · replace hx := xif_f hc94 hx
    refine wc_skip ?_
    refine sq_n ?_
    refine wc_seq ?_
    refine wc_region ?_
    refine wv rfl (r_move rfl) ?_
    refine wv rfl (r_build (cells := #[(.int .i64 1), (.int .i64 at_), (.slice none 0 0)]) rfl (by kernel_rfl)) ?_
    refine wv rfl (r_move rfl) ?_
    refine wv rfl (r_build (cells := #[(.int .i64 3), (.int .i64 many), (.slice none 0 0)]) rfl (by kernel_rfl)) ?_
    refine wv rfl (r_move rfl) ?_
    refine wv rfl (r_move rfl) ?_
    obtain ⟨hg105, hx⟩ := xg_some hx
    refine wv rfl (r_sub rfl rfl hg105) ?_
    refine wv rfl (r_move rfl) ?_
    obtain ⟨hg108, hx⟩ := xg_some hx
    refine wv rfl (r_sub rfl rfl hg108) ?_
    refine wv rfl (r_build (cells := #[(.int .i64 1), (.int .i64 ((n - at_) - many)), (.slice none 0 0)]) rfl (by kernel_rfl)) ?_
    refine w_ex rfl (x_lit (f := fDPart) (own := []) [(⟨1, at_, []⟩ : DPart), (⟨3, many, []⟩ : DPart), (⟨1, (n - at_) - many, []⟩ : DPart)] [(.int .i64 1), (.int .i64 at_), (.slice none 0 0), (.int .i64 3), (.int .i64 many), (.slice none 0 0), (.int .i64 1), (.int .i64 ((n - at_) - many)), (.slice none 0 0)] 3 Try.underlying26 sz79 (fun _ => rfl) rfl rfl rfl rfl rfl (by kernel_rfl) (fun _ => zP (pV _ rfl) (zP (pV _ rfl) (zP (pN _ _) (zP (pV _ rfl) (zP (pV _ rfl) (zP (pN _ _) (zP (pV _ rfl) (zP (pV _ rfl) (zP (pN _ _) zN))))))))) hM ?_); intro s111 w110 hR112 hM
    obtain ⟨r114, h115, hx⟩ := bind_some' hx
    refine w_call rfl rfl (hM.callO (l := []) fun X S oL hS hR hO => ct_impl_normalOr _ X S [(⟨1, at_, []⟩ : DPart), (⟨3, many, []⟩ : DPart), (⟨1, (n - at_) - many, []⟩ : DPart)] s111 hS (seeA hO (.head _)) oL h115) ?_
    rintro _ w116 ⟨s117, rfl, hM⟩
    replace hM : St ⟨w, X, S⟩ [oC (cSl 3 fDPart r114.1) s117.v, oC (cSl 3 fDPart [(⟨1, at_, []⟩ : DPart), (⟨3, many, []⟩ : DPart), (⟨1, (n - at_) - many, []⟩ : DPart)]) s111.v] [] _ := hM
    refine wv rfl (r_extract rfl rfl) ?_
    refine wv rfl (r_extract rfl rfl) ?_
    refine wv rfl (r_assign rfl) ?_
    refine wv rfl (r_assign rfl) ?_
    refine wl_nil ?_
    refine sq_n ?_
    refine wc_ret ?_
    obtain rfl := Option.some.inj hx
    refine fin_ret [s117.v, (.bool r114.2)] ⟨rfl, rfl, trivial⟩ ?_
    replace hM : St ⟨w, X, S⟩ [oC (cSl 3 fDPart r114.1) s117.v] [] _ := hM.tk 1
    have hM := hM.fewer rsN
    exact ⟨s117, rfl, hM.gives⟩

noncomputable def x_spec_DropAt (n : Int) (at_ : Int) (many : Int) : Option (List DPart × Bool) :=
  Option.bind (x_spec_l06Op n at_ [] many) fun r6 => some (r6.1, r6.2)
theorem ct_spec_DropAt (w : World) (X S : Bs) (n : Int) (at_ : Int) (many : Int) (hS : ∀ b, S b → b < w.heap.size ∧ ¬ X b)  (oL : Sep [] X w) {r : List DPart × Bool} (hx : x_spec_DropAt n at_ many = some r) :
    Ret Try.prog 78 [(.int .i64 n), (.int .i64 at_), (.int .i64 many)] w (fun u w' => ∃ y : Sv, u = .tuple #[y.v, (.bool r.2)] ∧ Gives X S w [oC (cSl 3 fDPart r.1) y.v] [] w') := by
  unfold x_spec_DropAt at hx
  refine enter Try.func78 rfl Try.ntmps78 (by kernel_rfl) rfl ?_
  have hM := St.enter oL hS
  refine wc_seq ?_
  refine wc_region ?_
  refine wv rfl (r_assign rfl) ?_
  refine wv rfl (r_assign rfl) ?_
  refine wl_nil ?_
  refine sq_n ?_
  refine wc_seq ?_
  refine wc_region ?_
  refine wv rfl (r_move rfl) ?_
  refine wv rfl (r_move rfl) ?_
  refine wv rfl (r_move rfl) ?_
  obtain ⟨r20, h21, hx⟩ := bind_some' hx
  refine w_call rfl rfl (hM.callO (l := []) fun X S oL hS hR hO => ct_spec_l06Op _ X S n at_ [] nS many hS (rd_nil _ _) oL h21) ?_
  rintro _ w22 ⟨s23, rfl, hM⟩
  replace hM : St ⟨w, X, S⟩ [oC (cSl 3 fDPart r20.1) s23.v] [] _ := hM
  refine wv rfl (r_extract rfl rfl) ?_
  refine wv rfl (r_extract rfl rfl) ?_
  refine wv rfl (r_assign rfl) ?_
  refine wv rfl (r_assign rfl) ?_
  refine wl_nil ?_
  refine sq_n ?_
  refine wc_ret ?_
  obtain rfl := Option.some.inj hx
  refine fin_ret [s23.v, (.bool r20.2)] ⟨rfl, rfl, trivial⟩ ?_
  replace hM : St ⟨w, X, S⟩ [oC (cSl 3 fDPart r20.1) s23.v] [] _ := hM.tk 1
  have hM := hM.fewer rsN
  exact ⟨s23, rfl, hM.gives⟩

noncomputable def x_impl_Touches_b1 (r25 : List DPart) (k139 : Nat) (at140 : Int) (k303 : Int) (l304 : List Int) : Option (Lr (Int × List Int) (List Int)) :=
  bif decide (k303 < ((el r25 k139).n)) then (xg (inI (at140 + k303)) <| xg (0 ≤ (at140 + k303) ∧ (at140 + k303) < (l304.length : Int)) <| xg (inI (k303 + 1)) <| some (Lr.go (k303 + 1, l304.set ((at140 + k303).toNat) 1))) else (some (Lr.out l304))
noncomputable def x_impl_Touches_f1 (r25 : List DPart) (k139 : Nat) (at140 : Int) (s342 : Int × List Int) : Option (Lr (Int × List Int) (List Int)) := x_impl_Touches_b1 r25 k139 at140 s342.1 s342.2
noncomputable def x_impl_Touches_b0 (r25 : List DPart) (k139 : Nat) (x353 : DPart) (at140 : Int) (l141 : List Int) : Option (Lr (Int × List Int) (List Int)) :=
  bif decide ((x353.kind) = 1) then (xg (inI (at140 + (x353.n))) <| some (Lr.go (at140 + (x353.n), l141))) else (bif decide ((x353.kind) = 2) then (xg (0 ≤ at140 ∧ at140 < (l141.length : Int)) <| some (Lr.go (at140, l141.set at140.toNat 1))) else (Option.bind (iter (x_impl_Touches_f1 r25 k139 at140) (0, l141)) fun (y343 : List Int) => xg (inI (at140 + (x353.n))) <| some (Lr.go (at140 + (x353.n), y343))))
noncomputable def x_impl_Touches_f0 (r25 : List DPart) (k139 : Nat) (s354 : Int × List Int) : Option (Lr (Int × List Int) (List Int)) := x_impl_Touches_b0 r25 k139 (el r25 k139) s354.1 s354.2
noncomputable def x_impl_Touches (o : List DPart) : Option (List Int) :=
  Option.bind (x_impl_OpOk o) fun r3 => bif !r3 then (some []) else (Option.bind (x_impl_OpFrom o) fun r10 => xg (inI (r10 + 1)) <| xg (0 ≤ (r10 + 1) ∧ (r10 + 1) ≤ 1099511627776) <| Option.bind (x_impl_OpNorm o) fun r25 => Option.bind (eachN (x_impl_Touches_f0 r25) (fun (s354 : Int × List Int) => (s354.2 : List Int)) r25.length 0 (0, List.replicate ((r10 + 1).toNat) 0)) fun (y355 : List Int) => some y355)
theorem ct_impl_Touches (w : World) (X S : Bs) (o : List DPart) (s_o : Sv) (hS : ∀ b, S b → b < w.heap.size ∧ ¬ X b) (a_o_0 : (cSl 3 fDPart o).rd S w s_o.v) (oL : Sep [] X w) {r : List Int} (hx : x_impl_Touches o = some r) :
    Ret Try.prog 18 [s_o.v] w (fun u w' => ∃ y : Sv, u = y.v ∧ Gives X S w [oC (cSl 1 fI r) y.v] [] w') := by
  unfold x_impl_Touches at hx
  refine enter Try.func18 rfl Try.ntmps18 (by kernel_rfl) rfl ?_
  have hM := St.enter oL hS
  have hM := hM.addE (r := rV s_o.v (cSl 3 fDPart o)) a_o_0
  refine wc_seq ?_
  refine wc_region ?_
  refine wv rfl (r_assign rfl) ?_
  refine wl_nil ?_
  refine sq_n ?_
  refine wc_seq ?_
  refine wc_seq ?_
  refine wc_region ?_
  refine wv rfl (r_move rfl) ?_
  obtain ⟨r361, h362, hx⟩ := bind_some' hx
  refine w_call rfl rfl (hM.callV fun X S oL hS hR hO => ct_impl_OpOk _ X S o s_o hS (hR _ (.head _)) oL h362) ?_
  rintro _ w363 ⟨rfl, hR364⟩
  have hM := hM.call hR364
  refine wv rfl (r_not rfl) ?_
  refine wl_nil ?_
  refine sq_n ?_
  refine wc_cond rfl (fun hc366 => ?_) (fun hc366 => ?_)
  · replace hx := xif_t hc366 hx
    refine wc_seq ?_
    refine wc_region ?_
    refine wv rfl (r_assign rfl) ?_
    refine wl_nil ?_
    refine sq_n ?_
    refine wc_ret ?_
    refine sq_ret ?_
    obtain rfl := Option.some.inj hx
    have hM := hM.nil0 (T := Int) 1 fI
    refine fin_ret [nS.v] ⟨rfl, trivial⟩ ?_
    replace hM : St ⟨w, X, S⟩ [oC (cSl 1 fI ([] : List Int)) nS.v] [rV s_o.v (cSl 3 fDPart o)] _ := hM.tk 1
    have hM := hM.fewer rsN
    exact ⟨nS, rfl, hM.gives⟩
  · replace hx := xif_f hc366 hx
    refine wc_skip ?_
    refine sq_n ?_
    refine wc_seq ?_
    refine wc_region ?_
    refine wv rfl (r_move rfl) ?_
    obtain ⟨r370, h371, hx⟩ := bind_some' hx
    refine w_call rfl rfl (hM.callV fun X S oL hS hR hO => ct_impl_OpFrom _ X S o s_o hS (hR _ (.head _)) oL h371) ?_
    rintro _ w372 ⟨rfl, hR373⟩
    have hM := hM.call hR373
    obtain ⟨hg375, hx⟩ := xg_some hx
    refine wv rfl (r_add rfl rfl hg375) ?_
    obtain ⟨hg378, hx⟩ := xg_some hx
    have hk379 : r370 + 1 = ((r370 + 1).toNat : Int) := by omega
    refine w_ex rfl (x_make (f := fI) (k := ((r370 + 1).toNat)) 0 Try.underlying24 sz3 (fun _ => rfl) (fun _ => zP (pV _ rfl) zN) (by rw [← hk379]; rfl) (by omega) rfl hM ?_); intro s377 w376 hR380 hM
    refine wv rfl (r_assign rfl) ?_
    refine wl_nil ?_
    refine sq_n ?_
    refine wc_seq ?_
    refine wc_region ?_
    refine wv rfl (r_assign rfl) ?_
    refine wl_nil ?_
    refine sq_n ?_
    refine wc_seq ?_
    refine wc_seq ?_
    refine wc_region ?_
    refine wv rfl (r_move rfl) ?_
    obtain ⟨r385, h386, hx⟩ := bind_some' hx
    refine w_call rfl rfl (hM.callO (l := []) fun X S oL hS hR hO => ct_impl_OpNorm _ X S o s_o hS (hR _ (.head _)) oL h386) ?_
    rintro _ w387 ⟨s388, rfl, hM⟩
    replace hM : St ⟨w, X, S⟩ [oC (cSl 3 fDPart r385) s388.v, oC (cSl 1 fI (List.replicate ((r370 + 1).toNat) 0)) s377.v] [rV s_o.v (cSl 3 fDPart o)] _ := hM
    refine wv rfl (r_lenC Try.underlying26 rfl (hM.seeO (.head _))) ?_
    refine wv rfl (r_move rfl) ?_
    refine wl_nil ?_
    refine sq_n ?_
    refine wc_block ?_
    obtain ⟨y392, hx, hx393⟩ := bind_some' hx
    replace hM : St ⟨w, X, S⟩ [oC (cSl 1 fI (List.replicate ((r370 + 1).toNat) 0)) s377.v, oC (cSl 3 fDPart r385) s388.v] [rV s_o.v (cSl 3 fDPart o)] _ := hM.pl [0, 1]
    have hM := hM.fewer rsN
    replace hM : St ⟨w, X, S⟩ [oC (cSl 1 fI (List.replicate ((r370 + 1).toNat) 0)) s377.v, oC (cSl 3 fDPart r385) s388.v] [] _ := hM
    have hl400 := Cs.le (hM.seeO (.tail _ (.head _)))
    refine wc_loop (un fun (m397 : Nat) => un fun (k398 : Nat) => un fun (at394 : Int) => un fun (l395 : List Int) => fun (s396 : Sv) => [(3, s396.v), (4, (.int .i64 at394)), (16, s388.v), (17, (.int .i64 (r385.length : Int))), (18, (.int .i64 (k398 : Int)))]) (un fun (m397 : Nat) => un fun (k398 : Nat) => un fun (at394 : Int) => un fun (l395 : List Int) => fun (s396 : Sv) w' => St ⟨w, X, S⟩ [oC (cSl 1 fI l395) s396.v, oC (cSl 3 fDPart r385) s388.v] [] w' ∧ eachN _ _ m397 k398 (at394, l395) = some y392 ∧ k398 + m397 = r385.length) (fun p => p.1) (r385.length, 0, 0, List.replicate ((r370 + 1).toNat) 0, s377) ⟨rfl, rfl, rfl, rfl, rfl, trivial⟩ ⟨hM, hx, Nat.zero_add _⟩ ?_
    rintro ⟨m397, k398, at394, l395, s396⟩ w401 ⟨hM, hx, hk399⟩
    refine wc_seq ?_
    refine wc_region ?_
    refine wv rfl (r_lss rfl rfl) ?_
    refine wl_nil ?_
    refine sq_n ?_
    refine wc_seq ?_
    refine wc_cond rfl (fun hc403 => ?_) (fun hc403 => ?_)
    · replace hc403 := of_decide_eq_true hc403
      obtain ⟨m404, z405, rfl, hk399, hx, hx406⟩ := eachN_step hx hk399 hc403
      unfold x_impl_Touches_f0 x_impl_Touches_b0 at hx
      try dsimp only at hx
      refine wc_skip ?_
      refine sq_n ?_
      refine wc_seq ?_
      refine wc_block ?_
      refine wc_seq ?_
      refine wc_region ?_
      have hi408 : k398 < r385.length := by omega
      refine wv rfl (r_ixC Try.underlying26 sz79 rfl rfl (hM.seeO (.tail _ (.head _))) ⟨by omega, hc403⟩) ?_
      replace hM : St ⟨w, X, S⟩ [oC (cSl 3 fDPart r385) s388.v, oC (cSl 1 fI l395) s396.v] [] _ := hM.pl [1]
      obtain ⟨s410, hM, hc411⟩ := hM.leafO (i := k398) (j := 2) (fun _ => rfl) hi408 rfl
      refine wv rfl (r_ldC (o := k398 * 3) Try.underlying79 sz79 rfl (us := [(.int .i64 ((el r385 k398).kind)), (.int .i64 ((el r385 k398).n)), s410.v]) rfl (hM.seeOV (.head _)) hi408 ⟨(Cs.get (i := k398) (j := 0) (hM.seeOV (.head _)) (fun _ => rfl) hi408 rfl), (Cs.get (i := k398) (j := 1) (hM.seeOV (.head _)) (fun _ => rfl) hi408 rfl), (hc411 _ (Rel.refl _)), trivial⟩) ?_
      refine w_ex rfl (x_alloc sz79 hM ?_); intro b413 w412 hR414 hM
      replace hM : St ⟨w, X, S⟩ [oBox b413 #[(.int .i64 0), (.int .i64 0), (.slice none 0 0)] 79, oV (oC (cSl 3 fDPart r385) s388.v) [vR s410.v (cSl 1 fI ((el r385 k398).signs)), vC (eaddr s388.v (k398 * 3 + 2)) s410.v], oC (cSl 1 fI l395) s396.v] [] _ := hM
      refine w_exu (x_stB #[(.int .i64 ((el r385 k398).kind)), (.int .i64 ((el r385 k398).n)), s410.v] sz79 rfl rfl rfl rfl rfl rfl hM ?_); intro w416 hM
      refine wl_nil ?_
      refine sq_n ?_
      refine wc_seq ?_
      refine wc_region ?_
      refine wv rfl (r_fld Try.underlying79 rfl rfl sz3 rfl) ?_
      refine wv rfl (r_ldB Try.underlying3 rfl rfl hM (.head _) rfl) ?_
      refine wl_nil ?_
      refine sq_n ?_
      refine wc_block ?_
      refine wc_seq ?_
      refine wc_region ?_
      refine wv rfl (r_eql rfl rfl) ?_
      refine wv rfl (r_assign rfl) ?_
      refine wl_nil ?_
      refine sq_n ?_
      refine wc_cond rfl (fun hc422 => ?_) (fun hc422 => ?_)
      · replace hx := xif_t hc422 hx
        refine wc_region ?_
        refine wv rfl (r_move rfl) ?_
        refine wv rfl (r_fld Try.underlying79 rfl rfl sz3 rfl) ?_
        refine wv rfl (r_ldB Try.underlying3 rfl rfl hM (.head _) rfl) ?_
        obtain ⟨hg427, hx⟩ := xg_some hx
        refine wv rfl (r_add rfl rfl hg427) ?_
        refine wv rfl (r_assign rfl) ?_
        refine wl_nil ?_
        refine bk_n ?_
        refine bk_n ?_
        refine sq_n ?_
        refine wc_region ?_
        refine wv rfl (r_add rfl rfl ⟨by omega, by omega⟩) ?_
        refine wv rfl (r_move rfl) ?_
        refine wl_nil ?_
        obtain rfl := Option.some.inj hx
        replace hM : St ⟨w, X, S⟩ [oV (oC (cSl 3 fDPart r385) s388.v) [vR s410.v (cSl 1 fI ((el r385 k398).signs)), vC (eaddr s388.v (k398 * 3 + 2)) s410.v], oBox b413 #[(.int .i64 ((el r385 k398).kind)), (.int .i64 ((el r385 k398).n)), s410.v] 79, oC (cSl 1 fI l395) s396.v] [] _ := hM.pl [1]
        replace hM : St ⟨w, X, S⟩ [oC (cSl 3 fDPart r385) s388.v, oBox b413 #[(.int .i64 ((el r385 k398).kind)), (.int .i64 ((el r385 k398).n)), s410.v] 79, oC (cSl 1 fI l395) s396.v] [] _ := hM.unview
        replace hM : St ⟨w, X, S⟩ [oC (cSl 1 fI l395) s396.v, oC (cSl 3 fDPart r385) s388.v, oBox b413 #[(.int .i64 ((el r385 k398).kind)), (.int .i64 ((el r385 k398).n)), s410.v] 79] [] _ := hM.pl [0, 2]
        replace hM : St ⟨w, X, S⟩ [oC (cSl 1 fI l395) s396.v, oC (cSl 3 fDPart r385) s388.v] [] _ := hM.tk 2
        exact lp_end (m404, k398 + 1, at394 + ((el r385 k398).n), l395, s396) (Nat.lt_succ_self _) ⟨rfl, rfl, rfl, rfl, rfl, trivial⟩ ⟨hM, hx406, hk399⟩
      · replace hx := xif_f hc422 hx
        refine wc_seq ?_
        refine wc_region ?_
        refine wv rfl (r_eql rfl rfl) ?_
        refine wv rfl (r_assign rfl) ?_
        refine wl_nil ?_
        refine sq_n ?_
        refine wc_cond rfl (fun hc433 => ?_) (fun hc433 => ?_)
        · replace hx := xif_t hc433 hx
          refine wc_region ?_
          refine wv rfl (r_move rfl) ?_
          refine wv rfl (r_move rfl) ?_
          obtain ⟨hg438, hx⟩ := xg_some hx
          have hi437 : at394.toNat < l395.length := by omega
          refine wv rfl (r_ixC Try.underlying24 sz3 rfl rfl (hM.seeO (.tail _ (.tail _ (.head _)))) hg438) ?_
          replace hM : St ⟨w, X, S⟩ [oC (cSl 1 fI l395) s396.v, oBox b413 #[(.int .i64 ((el r385 k398).kind)), (.int .i64 ((el r385 k398).n)), s410.v] 79, oV (oC (cSl 3 fDPart r385) s388.v) [vR s410.v (cSl 1 fI ((el r385 k398).signs)), vC (eaddr s388.v (k398 * 3 + 2)) s410.v]] [] _ := hM.pl [2]
          refine w_exu (x_stE (f := fI) (k := 1) (L := l395) (i := at394.toNat) (j := 0) 1 [cI 1] sz3 (fun _ => rfl) rfl rfl hi437 rfl rfl rfl rfl rfl (fun _ => zP (pV _ rfl) zN) hM ?_); intro w439 hM
          refine wl_nil ?_
          refine bk_n ?_
          refine bk_n ?_
          refine sq_n ?_
          refine wc_region ?_
          refine wv rfl (r_add rfl rfl ⟨by omega, by omega⟩) ?_
          refine wv rfl (r_move rfl) ?_
          refine wl_nil ?_
          obtain rfl := Option.some.inj hx
          replace hM : St ⟨w, X, S⟩ [oV (oC (cSl 3 fDPart r385) s388.v) [vR s410.v (cSl 1 fI ((el r385 k398).signs)), vC (eaddr s388.v (k398 * 3 + 2)) s410.v], oC (cSl 1 fI (l395.set at394.toNat 1)) s396.v, oBox b413 #[(.int .i64 ((el r385 k398).kind)), (.int .i64 ((el r385 k398).n)), s410.v] 79] [] _ := hM.pl [2]
          replace hM : St ⟨w, X, S⟩ [oC (cSl 3 fDPart r385) s388.v, oC (cSl 1 fI (l395.set at394.toNat 1)) s396.v, oBox b413 #[(.int .i64 ((el r385 k398).kind)), (.int .i64 ((el r385 k398).n)), s410.v] 79] [] _ := hM.unview
          replace hM : St ⟨w, X, S⟩ [oC (cSl 1 fI (l395.set at394.toNat 1)) s396.v, oC (cSl 3 fDPart r385) s388.v, oBox b413 #[(.int .i64 ((el r385 k398).kind)), (.int .i64 ((el r385 k398).n)), s410.v] 79] [] _ := hM.pl [0, 1]
          replace hM : St ⟨w, X, S⟩ [oC (cSl 1 fI (l395.set at394.toNat 1)) s396.v, oC (cSl 3 fDPart r385) s388.v] [] _ := hM.tk 2
          exact lp_end (m404, k398 + 1, at394, l395.set at394.toNat 1, s396) (Nat.lt_succ_self _) ⟨rfl, rfl, rfl, rfl, rfl, trivial⟩ ⟨hM, hx406, hk399⟩
        · replace hx := xif_f hc433 hx
          refine wc_seq ?_
          refine wc_seq ?_
          refine wc_region ?_
          refine wv rfl (r_assign rfl) ?_
          refine wl_nil ?_
          refine sq_n ?_
          refine wc_block ?_
          obtain ⟨y444, hx, hx445⟩ := bind_some' hx
          replace hM : St ⟨w, X, S⟩ [oV (oC (cSl 3 fDPart r385) s388.v) [vR s410.v (cSl 1 fI ((el r385 k398).signs)), vC (eaddr s388.v (k398 * 3 + 2)) s410.v], oBox b413 #[(.int .i64 ((el r385 k398).kind)), (.int .i64 ((el r385 k398).n)), s410.v] 79, oC (cSl 1 fI l395) s396.v] [] _ := hM.pl [1]
          replace hM : St ⟨w, X, S⟩ [oC (cSl 3 fDPart r385) s388.v, oBox b413 #[(.int .i64 ((el r385 k398).kind)), (.int .i64 ((el r385 k398).n)), s410.v] 79, oC (cSl 1 fI l395) s396.v] [] _ := hM.unview
          replace hM : St ⟨w, X, S⟩ [oC (cSl 1 fI l395) s396.v, oBox b413 #[(.int .i64 ((el r385 k398).kind)), (.int .i64 ((el r385 k398).n)), s410.v] 79, oC (cSl 3 fDPart r385) s388.v] [] _ := hM.pl [0, 1, 2]
          obtain ⟨m450, hx⟩ := iter_run hx
          refine wc_loop (un fun (m448 : Nat) => un fun (k446 : Int) => fun (l447 : List Int) => [(3, s396.v), (4, (.int .i64 at394)), (6, (.pointer (some ⟨b413, 0, none⟩))), (7, (.int .i64 k446)), (16, s388.v), (17, (.int .i64 (r385.length : Int))), (18, (.int .i64 (k398 : Int)))]) (un fun (m448 : Nat) => un fun (k446 : Int) => fun (l447 : List Int) w' => St ⟨w, X, S⟩ [oC (cSl 1 fI l447) s396.v, oBox b413 #[(.int .i64 ((el r385 k398).kind)), (.int .i64 ((el r385 k398).n)), s410.v] 79, oC (cSl 3 fDPart r385) s388.v] [] w' ∧ iterN _ m448 (k446, l447) = some y444) (fun p => p.1) (m450, 0, l395) ⟨rfl, rfl, rfl, rfl, rfl, rfl, rfl, trivial⟩ ⟨hM, hx⟩ ?_
          rintro ⟨m448, k446, l447⟩ w451 ⟨hM, hx⟩
          obtain ⟨m452, z453, rfl, hx, hx454⟩ := iterN_step hx
          unfold x_impl_Touches_f1 x_impl_Touches_b1 at hx
          try dsimp only at hx
          refine wc_seq ?_
          refine wc_seq ?_
          refine wc_region ?_
          refine wv rfl (r_move rfl) ?_
          refine wv rfl (r_fld Try.underlying79 rfl rfl sz3 rfl) ?_
          refine wv rfl (r_ldB Try.underlying3 rfl rfl hM (.tail _ (.head _)) rfl) ?_
          refine wv rfl (r_lss rfl rfl) ?_
          refine wl_nil ?_
          refine sq_n ?_
          refine wc_cond rfl (fun hc459 => ?_) (fun hc459 => ?_)
          · replace hx := xif_t hc459 hx
            refine wc_skip ?_
            refine sq_n ?_
            refine wc_seq ?_
            refine wc_block ?_
            refine wc_region ?_
            refine wv rfl (r_move rfl) ?_
            refine wv rfl (r_move rfl) ?_
            refine wv rfl (r_move rfl) ?_
            obtain ⟨hg464, hx⟩ := xg_some hx
            refine wv rfl (r_add rfl rfl hg464) ?_
            obtain ⟨hg467, hx⟩ := xg_some hx
            have hi466 : ((at394 + k446).toNat) < l447.length := by omega
            refine wv rfl (r_ixC Try.underlying24 sz3 rfl rfl (hM.seeO (.head _)) hg467) ?_
            refine w_exu (x_stE (f := fI) (k := 1) (L := l447) (i := ((at394 + k446).toNat)) (j := 0) 1 [cI 1] sz3 (fun _ => rfl) rfl rfl hi466 rfl rfl rfl rfl rfl (fun _ => zP (pV _ rfl) zN) hM ?_); intro w468 hM
            refine wl_nil ?_
            refine bk_n ?_
            refine sq_n ?_
            refine wc_region ?_
            refine wv rfl (r_move rfl) ?_
            obtain ⟨hg472, hx⟩ := xg_some hx
            refine wv rfl (r_add rfl rfl hg472) ?_
            refine wv rfl (r_assign rfl) ?_
            refine wl_nil ?_
            obtain rfl := Option.some.inj hx
            exact lp_end (m452, k446 + 1, l447.set ((at394 + k446).toNat) 1) (Nat.lt_succ_self _) ⟨rfl, rfl, rfl, rfl, rfl, rfl, rfl, trivial⟩ ⟨hM, hx454⟩
          · replace hx := xif_f hc459 hx
            refine wc_exit ?_
            refine sq_exit ?_
            refine lp1_exit ?_
            obtain rfl := Option.some.inj hx
            obtain rfl := Option.some.inj hx454
            replace hx := hx445
            try dsimp only [Sum.elim_inl, Sum.elim_inr] at hx
            refine bk_here ?_
            refine sq_n ?_
            refine wc_region ?_
            refine wv rfl (r_move rfl) ?_
            refine wv rfl (r_fld Try.underlying79 rfl rfl sz3 rfl) ?_
            refine wv rfl (r_ldB Try.underlying3 rfl rfl hM (.tail _ (.head _)) rfl) ?_
            obtain ⟨hg478, hx⟩ := xg_some hx
            refine wv rfl (r_add rfl rfl hg478) ?_
            refine wv rfl (r_assign rfl) ?_
            refine wl_nil ?_
            refine bk_n ?_
            refine bk_n ?_
            refine sq_n ?_
            refine wc_region ?_
            refine wv rfl (r_add rfl rfl ⟨by omega, by omega⟩) ?_
            refine wv rfl (r_move rfl) ?_
            refine wl_nil ?_
            obtain rfl := Option.some.inj hx
            replace hM : St ⟨w, X, S⟩ [oC (cSl 1 fI l447) s396.v, oC (cSl 3 fDPart r385) s388.v, oBox b413 #[(.int .i64 ((el r385 k398).kind)), (.int .i64 ((el r385 k398).n)), s410.v] 79] [] _ := hM.pl [2, 1]
            replace hM : St ⟨w, X, S⟩ [oC (cSl 1 fI l447) s396.v, oC (cSl 3 fDPart r385) s388.v] [] _ := hM.tk 2
            exact lp_end (m404, k398 + 1, at394 + ((el r385 k398).n), l447, s396) (Nat.lt_succ_self _) ⟨rfl, rfl, rfl, rfl, rfl, trivial⟩ ⟨hM, hx406, hk399⟩
    · replace hc403 := of_decide_eq_false hc403
      obtain rfl := eachN_end hx hk399 hc403
      refine wc_exit ?_
      refine sq_exit ?_
      refine lp1_exit ?_
      replace hx := hx393
      try dsimp only [Sum.elim_inl, Sum.elim_inr] at hx
      refine bk_here ?_
      refine sq_n ?_
      refine wc_seq ?_
      refine wc_region ?_
      refine wv rfl (r_move rfl) ?_
      refine wv rfl (r_assign rfl) ?_
      refine wl_nil ?_
      refine sq_n ?_
      refine wc_ret ?_
      obtain rfl := Option.some.inj hx
      refine fin_ret [s396.v] ⟨rfl, trivial⟩ ?_
      replace hM : St ⟨w, X, S⟩ [oC (cSl 1 fI l395) s396.v] [] _ := hM.tk 1
      have hM := hM.fewer rsN
      exact ⟨s396, rfl, hM.gives⟩

noncomputable def x_spec_Touches_b1 (r25 : List DPart) (k145 : Nat) (at146 : Int) (i313 : Int) (l314 : List Int) : Option (Lr (Int × List Int) (List Int)) :=
  bif decide (i313 < ((el r25 k145).n)) then (xg (inI (at146 + i313)) <| xg (0 ≤ (at146 + i313) ∧ (at146 + i313) < (l314.length : Int)) <| xg (inI (i313 + 1)) <| some (Lr.go (i313 + 1, l314.set ((at146 + i313).toNat) 1))) else (some (Lr.out l314))
noncomputable def x_spec_Touches_f1 (r25 : List DPart) (k145 : Nat) (at146 : Int) (s352 : Int × List Int) : Option (Lr (Int × List Int) (List Int)) := x_spec_Touches_b1 r25 k145 at146 s352.1 s352.2
noncomputable def x_spec_Touches_b0 (r25 : List DPart) (k145 : Nat) (x371 : DPart) (at146 : Int) (l147 : List Int) : Option (Lr (Int × List Int) (List Int)) :=
  bif decide ((x371.kind) = 2) then (xg (0 ≤ at146 ∧ at146 < (l147.length : Int)) <| xg (inI (at146 + (x371.n))) <| some (Lr.go (at146 + (x371.n), l147.set at146.toNat 1))) else (bif decide ((x371.kind) = 3) then (Option.bind (iter (x_spec_Touches_f1 r25 k145 at146) (0, l147)) fun (y353 : List Int) => xg (inI (at146 + (x371.n))) <| some (Lr.go (at146 + (x371.n), y353))) else (xg (inI (at146 + (x371.n))) <| some (Lr.go (at146 + (x371.n), l147))))
noncomputable def x_spec_Touches_f0 (r25 : List DPart) (k145 : Nat) (s372 : Int × List Int) : Option (Lr (Int × List Int) (List Int)) := x_spec_Touches_b0 r25 k145 (el r25 k145) s372.1 s372.2
noncomputable def x_spec_Touches (o : List DPart) : Option (List Int) :=
  Option.bind (x_spec_OpOk o) fun r3 => bif !r3 then (some []) else (Option.bind (x_spec_OpFrom o) fun r10 => xg (inI (r10 + 1)) <| xg (0 ≤ (r10 + 1) ∧ (r10 + 1) ≤ 1099511627776) <| Option.bind (x_spec_OpNorm o) fun r25 => Option.bind (eachN (x_spec_Touches_f0 r25) (fun (s372 : Int × List Int) => (s372.2 : List Int)) r25.length 0 (0, List.replicate ((r10 + 1).toNat) 0)) fun (y373 : List Int) => some y373)
theorem ct_spec_Touches (w : World) (X S : Bs) (o : List DPart) (s_o : Sv) (hS : ∀ b, S b → b < w.heap.size ∧ ¬ X b) (a_o_0 : (cSl 3 fDPart o).rd S w s_o.v) (oL : Sep [] X w) {r : List Int} (hx : x_spec_Touches o = some r) :
    Ret Try.prog 16 [s_o.v] w (fun u w' => ∃ y : Sv, u = y.v ∧ Gives X S w [oC (cSl 1 fI r) y.v] [] w') := by
  unfold x_spec_Touches at hx
  refine enter Try.func16 rfl Try.ntmps16 (by kernel_rfl) rfl ?_
  have hM := St.enter oL hS
  have hM := hM.addE (r := rV s_o.v (cSl 3 fDPart o)) a_o_0
  refine wc_seq ?_
  refine wc_region ?_
  refine wv rfl (r_assign rfl) ?_
  refine wl_nil ?_
  refine sq_n ?_
  refine wc_seq ?_
  refine wc_seq ?_
  refine wc_region ?_
  refine wv rfl (r_move rfl) ?_
  obtain ⟨r379, h380, hx⟩ := bind_some' hx
  refine w_call rfl rfl (hM.callV fun X S oL hS hR hO => ct_spec_OpOk _ X S o s_o hS (hR _ (.head _)) oL h380) ?_
  rintro _ w381 ⟨rfl, hR382⟩
  have hM := hM.call hR382
  refine wv rfl (r_not rfl) ?_
  refine wl_nil ?_
  refine sq_n ?_
  refine wc_cond rfl (fun hc384 => ?_) (fun hc384 => ?_)
  · replace hx := xif_t hc384 hx
    refine wc_seq ?_
    refine wc_region ?_
    refine wv rfl (r_assign rfl) ?_
    refine wl_nil ?_
    refine sq_n ?_
    refine wc_ret ?_
    refine sq_ret ?_
    obtain rfl := Option.some.inj hx
    have hM := hM.nil0 (T := Int) 1 fI
    refine fin_ret [nS.v] ⟨rfl, trivial⟩ ?_
    replace hM : St ⟨w, X, S⟩ [oC (cSl 1 fI ([] : List Int)) nS.v] [rV s_o.v (cSl 3 fDPart o)] _ := hM.tk 1
    have hM := hM.fewer rsN
    exact ⟨nS, rfl, hM.gives⟩
  · replace hx := xif_f hc384 hx
    refine wc_skip ?_
    refine sq_n ?_
    refine wc_seq ?_
    refine wc_region ?_
    refine wv rfl (r_move rfl) ?_
    obtain ⟨r388, h389, hx⟩ := bind_some' hx
    refine w_call rfl rfl (hM.callV fun X S oL hS hR hO => ct_spec_OpFrom _ X S o s_o hS (hR _ (.head _)) oL h389) ?_
    rintro _ w390 ⟨rfl, hR391⟩
    have hM := hM.call hR391
    obtain ⟨hg393, hx⟩ := xg_some hx
    refine wv rfl (r_add rfl rfl hg393) ?_
    obtain ⟨hg396, hx⟩ := xg_some hx
    have hk397 : r388 + 1 = ((r388 + 1).toNat : Int) := by omega
    refine w_ex rfl (x_make (f := fI) (k := ((r388 + 1).toNat)) 0 Try.underlying24 sz3 (fun _ => rfl) (fun _ => zP (pV _ rfl) zN) (by rw [← hk397]; rfl) (by omega) rfl hM ?_); intro s395 w394 hR398 hM
    refine wv rfl (r_assign rfl) ?_
    refine wl_nil ?_
    refine sq_n ?_
    refine wc_seq ?_
    refine wc_region ?_
    refine wv rfl (r_assign rfl) ?_
    refine wl_nil ?_
    refine sq_n ?_
    refine wc_seq ?_
    refine wc_seq ?_
    refine wc_region ?_
    refine wv rfl (r_move rfl) ?_
    obtain ⟨r403, h404, hx⟩ := bind_some' hx
    refine w_call rfl rfl (hM.callO (l := []) fun X S oL hS hR hO => ct_spec_OpNorm _ X S o s_o hS (hR _ (.head _)) oL h404) ?_
    rintro _ w405 ⟨s406, rfl, hM⟩
    replace hM : St ⟨w, X, S⟩ [oC (cSl 3 fDPart r403) s406.v, oC (cSl 1 fI (List.replicate ((r388 + 1).toNat) 0)) s395.v] [rV s_o.v (cSl 3 fDPart o)] _ := hM
    refine wv rfl (r_lenC Try.underlying26 rfl (hM.seeO (.head _))) ?_
    refine wv rfl (r_move rfl) ?_
    refine wl_nil ?_
    refine sq_n ?_
    refine wc_block ?_
    obtain ⟨y410, hx, hx411⟩ := bind_some' hx
    replace hM : St ⟨w, X, S⟩ [oC (cSl 1 fI (List.replicate ((r388 + 1).toNat) 0)) s395.v, oC (cSl 3 fDPart r403) s406.v] [rV s_o.v (cSl 3 fDPart o)] _ := hM.pl [0, 1]
    have hM := hM.fewer rsN
    replace hM : St ⟨w, X, S⟩ [oC (cSl 1 fI (List.replicate ((r388 + 1).toNat) 0)) s395.v, oC (cSl 3 fDPart r403) s406.v] [] _ := hM
    have hl418 := Cs.le (hM.seeO (.tail _ (.head _)))
    refine wc_loop (un fun (m415 : Nat) => un fun (k416 : Nat) => un fun (at412 : Int) => un fun (l413 : List Int) => fun (s414 : Sv) => [(3, s414.v), (4, (.int .i64 at412)), (16, s406.v), (17, (.int .i64 (r403.length : Int))), (18, (.int .i64 (k416 : Int)))]) (un fun (m415 : Nat) => un fun (k416 : Nat) => un fun (at412 : Int) => un fun (l413 : List Int) => fun (s414 : Sv) w' => St ⟨w, X, S⟩ [oC (cSl 1 fI l413) s414.v, oC (cSl 3 fDPart r403) s406.v] [] w' ∧ eachN _ _ m415 k416 (at412, l413) = some y410 ∧ k416 + m415 = r403.length) (fun p => p.1) (r403.length, 0, 0, List.replicate ((r388 + 1).toNat) 0, s395) ⟨rfl, rfl, rfl, rfl, rfl, trivial⟩ ⟨hM, hx, Nat.zero_add _⟩ ?_
    rintro ⟨m415, k416, at412, l413, s414⟩ w419 ⟨hM, hx, hk417⟩
    refine wc_seq ?_
    refine wc_region ?_
    refine wv rfl (r_lss rfl rfl) ?_
    refine wl_nil ?_
    refine sq_n ?_
    refine wc_seq ?_
    refine wc_cond rfl (fun hc421 => ?_) (fun hc421 => ?_)
    · replace hc421 := of_decide_eq_true hc421
      obtain ⟨m422, z423, rfl, hk417, hx, hx424⟩ := eachN_step hx hk417 hc421
      unfold x_spec_Touches_f0 x_spec_Touches_b0 at hx
      try dsimp only at hx
      refine wc_skip ?_
      refine sq_n ?_
      refine wc_seq ?_
      refine wc_block ?_
      refine wc_seq ?_
      refine wc_region ?_
      have hi426 : k416 < r403.length := by omega
      refine wv rfl (r_ixC Try.underlying26 sz79 rfl rfl (hM.seeO (.tail _ (.head _))) ⟨by omega, hc421⟩) ?_
      replace hM : St ⟨w, X, S⟩ [oC (cSl 3 fDPart r403) s406.v, oC (cSl 1 fI l413) s414.v] [] _ := hM.pl [1]
      obtain ⟨s428, hM, hc429⟩ := hM.leafO (i := k416) (j := 2) (fun _ => rfl) hi426 rfl
      refine wv rfl (r_ldC (o := k416 * 3) Try.underlying79 sz79 rfl (us := [(.int .i64 ((el r403 k416).kind)), (.int .i64 ((el r403 k416).n)), s428.v]) rfl (hM.seeOV (.head _)) hi426 ⟨(Cs.get (i := k416) (j := 0) (hM.seeOV (.head _)) (fun _ => rfl) hi426 rfl), (Cs.get (i := k416) (j := 1) (hM.seeOV (.head _)) (fun _ => rfl) hi426 rfl), (hc429 _ (Rel.refl _)), trivial⟩) ?_
      refine w_ex rfl (x_alloc sz79 hM ?_); intro b431 w430 hR432 hM
      replace hM : St ⟨w, X, S⟩ [oBox b431 #[(.int .i64 0), (.int .i64 0), (.slice none 0 0)] 79, oV (oC (cSl 3 fDPart r403) s406.v) [vR s428.v (cSl 1 fI ((el r403 k416).signs)), vC (eaddr s406.v (k416 * 3 + 2)) s428.v], oC (cSl 1 fI l413) s414.v] [] _ := hM
      refine w_exu (x_stB #[(.int .i64 ((el r403 k416).kind)), (.int .i64 ((el r403 k416).n)), s428.v] sz79 rfl rfl rfl rfl rfl rfl hM ?_); intro w434 hM
      refine wl_nil ?_
      refine sq_n ?_
      refine wc_seq ?_
      refine wc_seq ?_
      refine wc_region ?_
      refine wv rfl (r_fld Try.underlying79 rfl rfl sz3 rfl) ?_
      refine wv rfl (r_ldB Try.underlying3 rfl rfl hM (.head _) rfl) ?_
      refine wl_nil ?_
      refine sq_n ?_
      refine wc_block ?_
      refine wc_seq ?_
      refine wc_region ?_
      refine wv rfl (r_eql rfl rfl) ?_
      refine wv rfl (r_assign rfl) ?_
      refine wl_nil ?_
      refine sq_n ?_
      refine wc_cond rfl (fun hc440 => ?_) (fun hc440 => ?_)
      · replace hx := xif_t hc440 hx
        refine wc_region ?_
        refine wv rfl (r_move rfl) ?_
        refine wv rfl (r_move rfl) ?_
        obtain ⟨hg445, hx⟩ := xg_some hx
        have hi444 : at412.toNat < l413.length := by omega
        refine wv rfl (r_ixC Try.underlying24 sz3 rfl rfl (hM.seeO (.tail _ (.tail _ (.head _)))) hg445) ?_
        replace hM : St ⟨w, X, S⟩ [oC (cSl 1 fI l413) s414.v, oBox b431 #[(.int .i64 ((el r403 k416).kind)), (.int .i64 ((el r403 k416).n)), s428.v] 79, oV (oC (cSl 3 fDPart r403) s406.v) [vR s428.v (cSl 1 fI ((el r403 k416).signs)), vC (eaddr s406.v (k416 * 3 + 2)) s428.v]] [] _ := hM.pl [2]
        refine w_exu (x_stE (f := fI) (k := 1) (L := l413) (i := at412.toNat) (j := 0) 1 [cI 1] sz3 (fun _ => rfl) rfl rfl hi444 rfl rfl rfl rfl rfl (fun _ => zP (pV _ rfl) zN) hM ?_); intro w446 hM
        refine wl_nil ?_
        refine bk_n ?_
        refine sq_n ?_
        refine wc_region ?_
        refine wv rfl (r_move rfl) ?_
        refine wv rfl (r_fld Try.underlying79 rfl rfl sz3 rfl) ?_
        refine wv rfl (r_ldB Try.underlying3 rfl rfl hM (.tail _ (.head _)) rfl) ?_
        obtain ⟨hg452, hx⟩ := xg_some hx
        refine wv rfl (r_add rfl rfl hg452) ?_
        refine wv rfl (r_assign rfl) ?_
        refine wl_nil ?_
        refine bk_n ?_
        refine sq_n ?_
        refine wc_region ?_
        refine wv rfl (r_add rfl rfl ⟨by omega, by omega⟩) ?_
        refine wv rfl (r_move rfl) ?_
        refine wl_nil ?_
        obtain rfl := Option.some.inj hx
        replace hM : St ⟨w, X, S⟩ [oV (oC (cSl 3 fDPart r403) s406.v) [vR s428.v (cSl 1 fI ((el r403 k416).signs)), vC (eaddr s406.v (k416 * 3 + 2)) s428.v], oC (cSl 1 fI (l413.set at412.toNat 1)) s414.v, oBox b431 #[(.int .i64 ((el r403 k416).kind)), (.int .i64 ((el r403 k416).n)), s428.v] 79] [] _ := hM.pl [2]
        replace hM : St ⟨w, X, S⟩ [oC (cSl 3 fDPart r403) s406.v, oC (cSl 1 fI (l413.set at412.toNat 1)) s414.v, oBox b431 #[(.int .i64 ((el r403 k416).kind)), (.int .i64 ((el r403 k416).n)), s428.v] 79] [] _ := hM.unview
        replace hM : St ⟨w, X, S⟩ [oC (cSl 1 fI (l413.set at412.toNat 1)) s414.v, oC (cSl 3 fDPart r403) s406.v, oBox b431 #[(.int .i64 ((el r403 k416).kind)), (.int .i64 ((el r403 k416).n)), s428.v] 79] [] _ := hM.pl [0, 1]
        replace hM : St ⟨w, X, S⟩ [oC (cSl 1 fI (l413.set at412.toNat 1)) s414.v, oC (cSl 3 fDPart r403) s406.v] [] _ := hM.tk 2
        exact lp_end (m422, k416 + 1, at412 + ((el r403 k416).n), l413.set at412.toNat 1, s414) (Nat.lt_succ_self _) ⟨rfl, rfl, rfl, rfl, rfl, trivial⟩ ⟨hM, hx424, hk417⟩
      · replace hx := xif_f hc440 hx
        refine wc_seq ?_
        refine wc_region ?_
        refine wv rfl (r_eql rfl rfl) ?_
        refine wv rfl (r_assign rfl) ?_
        refine wl_nil ?_
        refine sq_n ?_
        refine wc_cond rfl (fun hc458 => ?_) (fun hc458 => ?_)
        · replace hx := xif_t hc458 hx
          refine wc_seq ?_
          refine wc_region ?_
          refine wv rfl (r_assign rfl) ?_
          refine wl_nil ?_
          refine sq_n ?_
          refine wc_block ?_
          obtain ⟨y460, hx, hx461⟩ := bind_some' hx
          replace hM : St ⟨w, X, S⟩ [oV (oC (cSl 3 fDPart r403) s406.v) [vR s428.v (cSl 1 fI ((el r403 k416).signs)), vC (eaddr s406.v (k416 * 3 + 2)) s428.v], oBox b431 #[(.int .i64 ((el r403 k416).kind)), (.int .i64 ((el r403 k416).n)), s428.v] 79, oC (cSl 1 fI l413) s414.v] [] _ := hM.pl [1]
          replace hM : St ⟨w, X, S⟩ [oC (cSl 3 fDPart r403) s406.v, oBox b431 #[(.int .i64 ((el r403 k416).kind)), (.int .i64 ((el r403 k416).n)), s428.v] 79, oC (cSl 1 fI l413) s414.v] [] _ := hM.unview
          replace hM : St ⟨w, X, S⟩ [oC (cSl 1 fI l413) s414.v, oBox b431 #[(.int .i64 ((el r403 k416).kind)), (.int .i64 ((el r403 k416).n)), s428.v] 79, oC (cSl 3 fDPart r403) s406.v] [] _ := hM.pl [0, 1, 2]
          obtain ⟨m466, hx⟩ := iter_run hx
          refine wc_loop (un fun (m464 : Nat) => un fun (i462 : Int) => fun (l463 : List Int) => [(3, s414.v), (4, (.int .i64 at412)), (6, (.pointer (some ⟨b431, 0, none⟩))), (7, (.int .i64 i462)), (16, s406.v), (17, (.int .i64 (r403.length : Int))), (18, (.int .i64 (k416 : Int)))]) (un fun (m464 : Nat) => un fun (i462 : Int) => fun (l463 : List Int) w' => St ⟨w, X, S⟩ [oC (cSl 1 fI l463) s414.v, oBox b431 #[(.int .i64 ((el r403 k416).kind)), (.int .i64 ((el r403 k416).n)), s428.v] 79, oC (cSl 3 fDPart r403) s406.v] [] w' ∧ iterN _ m464 (i462, l463) = some y460) (fun p => p.1) (m466, 0, l413) ⟨rfl, rfl, rfl, rfl, rfl, rfl, rfl, trivial⟩ ⟨hM, hx⟩ ?_
          rintro ⟨m464, i462, l463⟩ w467 ⟨hM, hx⟩
          obtain ⟨m468, z469, rfl, hx, hx470⟩ := iterN_step hx
          unfold x_spec_Touches_f1 x_spec_Touches_b1 at hx
          try dsimp only at hx
          refine wc_seq ?_
          refine wc_seq ?_
          refine wc_region ?_
          refine wv rfl (r_move rfl) ?_
          refine wv rfl (r_fld Try.underlying79 rfl rfl sz3 rfl) ?_
          refine wv rfl (r_ldB Try.underlying3 rfl rfl hM (.tail _ (.head _)) rfl) ?_
          refine wv rfl (r_lss rfl rfl) ?_
          refine wl_nil ?_
          refine sq_n ?_
          refine wc_cond rfl (fun hc475 => ?_) (fun hc475 => ?_)
          · replace hx := xif_t hc475 hx
            refine wc_skip ?_
            refine sq_n ?_
            refine wc_seq ?_
            refine wc_block ?_
            refine wc_region ?_
            refine wv rfl (r_move rfl) ?_
            refine wv rfl (r_move rfl) ?_
            refine wv rfl (r_move rfl) ?_
            obtain ⟨hg480, hx⟩ := xg_some hx
            refine wv rfl (r_add rfl rfl hg480) ?_
            obtain ⟨hg483, hx⟩ := xg_some hx
            have hi482 : ((at412 + i462).toNat) < l463.length := by omega
            refine wv rfl (r_ixC Try.underlying24 sz3 rfl rfl (hM.seeO (.head _)) hg483) ?_
            refine w_exu (x_stE (f := fI) (k := 1) (L := l463) (i := ((at412 + i462).toNat)) (j := 0) 1 [cI 1] sz3 (fun _ => rfl) rfl rfl hi482 rfl rfl rfl rfl rfl (fun _ => zP (pV _ rfl) zN) hM ?_); intro w484 hM
            refine wl_nil ?_
            refine bk_n ?_
            refine sq_n ?_
            refine wc_region ?_
            refine wv rfl (r_move rfl) ?_
            obtain ⟨hg488, hx⟩ := xg_some hx
            refine wv rfl (r_add rfl rfl hg488) ?_
            refine wv rfl (r_assign rfl) ?_
            refine wl_nil ?_
            obtain rfl := Option.some.inj hx
            exact lp_end (m468, i462 + 1, l463.set ((at412 + i462).toNat) 1) (Nat.lt_succ_self _) ⟨rfl, rfl, rfl, rfl, rfl, rfl, rfl, trivial⟩ ⟨hM, hx470⟩
          · replace hx := xif_f hc475 hx
            refine wc_exit ?_
            refine sq_exit ?_
            refine lp1_exit ?_
            obtain rfl := Option.some.inj hx
            obtain rfl := Option.some.inj hx470
            replace hx := hx461
            try dsimp only [Sum.elim_inl, Sum.elim_inr] at hx
            refine bk_here ?_
            refine bk_n ?_
            refine sq_n ?_
            refine wc_region ?_
            refine wv rfl (r_move rfl) ?_
            refine wv rfl (r_fld Try.underlying79 rfl rfl sz3 rfl) ?_
            refine wv rfl (r_ldB Try.underlying3 rfl rfl hM (.tail _ (.head _)) rfl) ?_
            obtain ⟨hg494, hx⟩ := xg_some hx
            refine wv rfl (r_add rfl rfl hg494) ?_
            refine wv rfl (r_assign rfl) ?_
            refine wl_nil ?_
            refine bk_n ?_
            refine sq_n ?_
            refine wc_region ?_
            refine wv rfl (r_add rfl rfl ⟨by omega, by omega⟩) ?_
            refine wv rfl (r_move rfl) ?_
            refine wl_nil ?_
            obtain rfl := Option.some.inj hx
            replace hM : St ⟨w, X, S⟩ [oC (cSl 1 fI l463) s414.v, oC (cSl 3 fDPart r403) s406.v, oBox b431 #[(.int .i64 ((el r403 k416).kind)), (.int .i64 ((el r403 k416).n)), s428.v] 79] [] _ := hM.pl [2, 1]
            replace hM : St ⟨w, X, S⟩ [oC (cSl 1 fI l463) s414.v, oC (cSl 3 fDPart r403) s406.v] [] _ := hM.tk 2
            exact lp_end (m422, k416 + 1, at412 + ((el r403 k416).n), l463, s414) (Nat.lt_succ_self _) ⟨rfl, rfl, rfl, rfl, rfl, trivial⟩ ⟨hM, hx424, hk417⟩
        · replace hx := xif_f hc458 hx
          refine wc_skip ?_
          refine bk_n ?_
          refine sq_n ?_
          refine wc_region ?_
          refine wv rfl (r_move rfl) ?_
          refine wv rfl (r_fld Try.underlying79 rfl rfl sz3 rfl) ?_
          refine wv rfl (r_ldB Try.underlying3 rfl rfl hM (.head _) rfl) ?_
          obtain ⟨hg502, hx⟩ := xg_some hx
          refine wv rfl (r_add rfl rfl hg502) ?_
          refine wv rfl (r_assign rfl) ?_
          refine wl_nil ?_
          refine bk_n ?_
          refine sq_n ?_
          refine wc_region ?_
          refine wv rfl (r_add rfl rfl ⟨by omega, by omega⟩) ?_
          refine wv rfl (r_move rfl) ?_
          refine wl_nil ?_
          obtain rfl := Option.some.inj hx
          replace hM : St ⟨w, X, S⟩ [oV (oC (cSl 3 fDPart r403) s406.v) [vR s428.v (cSl 1 fI ((el r403 k416).signs)), vC (eaddr s406.v (k416 * 3 + 2)) s428.v], oBox b431 #[(.int .i64 ((el r403 k416).kind)), (.int .i64 ((el r403 k416).n)), s428.v] 79, oC (cSl 1 fI l413) s414.v] [] _ := hM.pl [1]
          replace hM : St ⟨w, X, S⟩ [oC (cSl 3 fDPart r403) s406.v, oBox b431 #[(.int .i64 ((el r403 k416).kind)), (.int .i64 ((el r403 k416).n)), s428.v] 79, oC (cSl 1 fI l413) s414.v] [] _ := hM.unview
          replace hM : St ⟨w, X, S⟩ [oC (cSl 1 fI l413) s414.v, oC (cSl 3 fDPart r403) s406.v, oBox b431 #[(.int .i64 ((el r403 k416).kind)), (.int .i64 ((el r403 k416).n)), s428.v] 79] [] _ := hM.pl [0, 2]
          replace hM : St ⟨w, X, S⟩ [oC (cSl 1 fI l413) s414.v, oC (cSl 3 fDPart r403) s406.v] [] _ := hM.tk 2
          exact lp_end (m422, k416 + 1, at412 + ((el r403 k416).n), l413, s414) (Nat.lt_succ_self _) ⟨rfl, rfl, rfl, rfl, rfl, trivial⟩ ⟨hM, hx424, hk417⟩
    · replace hc421 := of_decide_eq_false hc421
      obtain rfl := eachN_end hx hk417 hc421
      refine wc_exit ?_
      refine sq_exit ?_
      refine lp1_exit ?_
      replace hx := hx411
      try dsimp only [Sum.elim_inl, Sum.elim_inr] at hx
      refine bk_here ?_
      refine sq_n ?_
      refine wc_seq ?_
      refine wc_region ?_
      refine wv rfl (r_move rfl) ?_
      refine wv rfl (r_assign rfl) ?_
      refine wl_nil ?_
      refine sq_n ?_
      refine wc_ret ?_
      obtain rfl := Option.some.inj hx
      refine fin_ret [s414.v] ⟨rfl, trivial⟩ ?_
      replace hM : St ⟨w, X, S⟩ [oC (cSl 1 fI l413) s414.v] [] _ := hM.tk 1
      have hM := hM.fewer rsN
      exact ⟨s414, rfl, hM.gives⟩

noncomputable def x_impl_Clashes_b0 (r51 : List Int) (r58 : List Int) (k65 : Nat) (x111 : Int) (n66 : Int) : Option (Lr Int Int) :=
  xg (0 ≤ (k65 : Int) ∧ (k65 : Int) < (r51.length : Int)) <| xg (inI (x111 * (el r51 k65))) <| xg (inI (n66 + (x111 * (el r51 k65)))) <| some (Lr.go (n66 + (x111 * (el r51 k65))))
noncomputable def x_impl_Clashes_f0 (r51 : List Int) (r58 : List Int) (k65 : Nat) (s112 : Int) : Option (Lr Int Int) := x_impl_Clashes_b0 r51 r58 k65 (el r58 k65) s112
noncomputable def x_impl_Clashes (a : List DPart) (b : List DPart) : Option Int :=
  Option.bind (x_impl_OpOk a) fun r3 => Option.bind (bif !r3 then (some true) else (Option.bind (x_impl_OpOk b) fun r18 => some (!r18))) fun c9 => Option.bind (bif c9 then (some true) else (Option.bind (x_impl_OpFrom a) fun r38 => Option.bind (x_impl_OpFrom b) fun r43 => some (!decide (r38 = r43)))) fun c24 => bif c24 then (some (-1)) else (Option.bind (x_impl_Touches b) fun r51 => Option.bind (x_impl_Touches a) fun r58 => Option.bind (eachN (x_impl_Clashes_f0 r51 r58) (fun (s112 : Int) => (s112 : Int)) r58.length 0 0) fun (y113 : Int) => some y113)
theorem ct_impl_Clashes (w : World) (X S : Bs) (a : List DPart) (s_a : Sv) (b : List DPart) (s_b : Sv) (hS : ∀ b, S b → b < w.heap.size ∧ ¬ X b) (a_a_0 : (cSl 3 fDPart a).rd S w s_a.v) (a_b_0 : (cSl 3 fDPart b).rd S w s_b.v) (oL : Sep [] X w) {r : Int} (hx : x_impl_Clashes a b = some r) :
    Ret Try.prog 25 [s_a.v, s_b.v] w (fun u w' => ∃ _ : Unit, u = (.int .i64 r) ∧ Gives X S w [] [] w') := by
  unfold x_impl_Clashes at hx
  refine enter Try.func25 rfl Try.ntmps25 (by kernel_rfl) rfl ?_
  have hM := St.enter oL hS
  have hM := hM.addE (r := rV s_a.v (cSl 3 fDPart a)) a_a_0
  have hM := hM.addE (r := rV s_b.v (cSl 3 fDPart b)) a_b_0
  refine wc_seq ?_
  refine wc_region ?_
  refine wv rfl (r_assign rfl) ?_
  refine wl_nil ?_
  refine sq_n ?_
  refine wc_seq ?_
  refine wc_seq ?_
  refine wc_region ?_
  refine wv rfl (r_move rfl) ?_
  obtain ⟨r118, h119, hx⟩ := bind_some' hx
  refine w_call rfl rfl (hM.callV fun X S oL hS hR hO => ct_impl_OpOk _ X S a s_a hS (hR _ (.tail _ (.head _))) oL h119) ?_
  rintro _ w120 ⟨rfl, hR121⟩
  have hM := hM.call hR121
  refine wv rfl (r_not rfl) ?_
  refine wv rfl (r_move rfl) ?_
  obtain ⟨c124, hx, hx132⟩ := bind_some' hx
  refine wl_mid 4 (fun _ : Unit => [(16, (.bool c124)), (0, s_a.v), (1, s_b.v)]) (fun _ w' => St ⟨w, X, S⟩ [] [rV s_b.v (cSl 3 fDPart b), rV s_a.v (cSl 3 fDPart a)] w') ?_ ?_
  · rcases Bool.eq_false_or_eq_true (!r118) with hg125 | hg125
    · replace hx := xif_t hg125 hx
      refine gs rfl (isB_no hg125) rfl ?_
      refine gs rfl (isB_no hg125) rfl ?_
      refine gs rfl (isB_no hg125) rfl ?_
      refine wv rfl (p_t rfl hg125 rfl) ?_
      obtain rfl := Option.some.inj hx
      exact mid_nil () ⟨rfl, rfl, rfl, trivial⟩ hM
    · replace hx := xif_f hg125 hx
      refine gv rfl hg125 rfl (r_move rfl) ?_
      obtain ⟨r134, h135, hx⟩ := bind_some' hx
      refine gc rfl hg125 rfl rfl (hM.callV fun X S oL hS hR hO => ct_impl_OpOk _ X S b s_b hS (hR _ (.head _)) oL h135) ?_
      rintro _ w136 ⟨rfl, hR137⟩
      have hM := hM.call hR137
      refine gv rfl hg125 rfl (r_not rfl) ?_
      refine wv rfl (p_f rfl hg125 rfl) ?_
      obtain rfl := Option.some.inj hx
      exact mid_nil () ⟨rfl, rfl, rfl, trivial⟩ hM
  rintro _ w139 hM
  replace hx := hx132
  refine wv rfl (r_move rfl) ?_
  obtain ⟨c141, hx, hx154⟩ := bind_some' hx
  refine wl_mid 6 (fun _ : Unit => [(23, (.bool c141)), (0, s_a.v), (1, s_b.v)]) (fun _ w' => St ⟨w, X, S⟩ [] [rV s_b.v (cSl 3 fDPart b), rV s_a.v (cSl 3 fDPart a)] w') ?_ ?_
  · rcases Bool.eq_false_or_eq_true c124 with hg142 | hg142
    · replace hx := xif_t hg142 hx
      refine gs rfl (isB_no hg142) rfl ?_
      refine gs rfl (isB_no hg142) rfl ?_
      refine gs rfl (isB_no hg142) rfl ?_
      refine gs rfl (isB_no hg142) rfl ?_
      refine gs rfl (isB_no hg142) rfl ?_
      refine wv rfl (p_t rfl hg142 rfl) ?_
      obtain rfl := Option.some.inj hx
      exact mid_nil () ⟨rfl, rfl, rfl, trivial⟩ hM
    · replace hx := xif_f hg142 hx
      refine gv rfl hg142 rfl (r_move rfl) ?_
      obtain ⟨r156, h157, hx⟩ := bind_some' hx
      refine gc rfl hg142 rfl rfl (hM.callV fun X S oL hS hR hO => ct_impl_OpFrom _ X S a s_a hS (hR _ (.tail _ (.head _))) oL h157) ?_
      rintro _ w158 ⟨rfl, hR159⟩
      have hM := hM.call hR159
      refine gv rfl hg142 rfl (r_move rfl) ?_
      obtain ⟨r161, h162, hx⟩ := bind_some' hx
      refine gc rfl hg142 rfl rfl (hM.callV fun X S oL hS hR hO => ct_impl_OpFrom _ X S b s_b hS (hR _ (.head _)) oL h162) ?_
      rintro _ w163 ⟨rfl, hR164⟩
      have hM := hM.call hR164
      refine gv rfl hg142 rfl (r_neq rfl rfl) ?_
      refine wv rfl (p_f rfl hg142 rfl) ?_
      obtain rfl := Option.some.inj hx
      exact mid_nil () ⟨rfl, rfl, rfl, trivial⟩ hM
  rintro _ w166 hM
  replace hx := hx154
  refine wl_nil ?_
  refine sq_n ?_
  refine wc_cond rfl (fun hc167 => ?_) (fun hc167 => ?_)
  · replace hx := xif_t hc167 hx
    refine wc_seq ?_
    refine wc_region ?_
    refine wv rfl (r_assign rfl) ?_
    refine wl_nil ?_
    refine sq_n ?_
    refine wc_ret ?_
    refine sq_ret ?_
    obtain rfl := Option.some.inj hx
    refine fin_ret [(.int .i64 (-1))] ⟨rfl, trivial⟩ ?_
    replace hM : St ⟨w, X, S⟩ [] [rV s_b.v (cSl 3 fDPart b), rV s_a.v (cSl 3 fDPart a)] _ := hM.tk 0
    have hM := hM.fewer rsN
    exact ⟨(), rfl, hM.gives⟩
  · replace hx := xif_f hc167 hx
    refine wc_skip ?_
    refine sq_n ?_
    refine wc_seq ?_
    refine wc_region ?_
    refine wv rfl (r_assign rfl) ?_
    refine wl_nil ?_
    refine sq_n ?_
    refine wc_seq ?_
    refine wc_region ?_
    refine wv rfl (r_move rfl) ?_
    obtain ⟨r171, h172, hx⟩ := bind_some' hx
    refine w_call rfl rfl (hM.callO (l := []) fun X S oL hS hR hO => ct_impl_Touches _ X S b s_b hS (hR _ (.head _)) oL h172) ?_
    rintro _ w173 ⟨s174, rfl, hM⟩
    replace hM : St ⟨w, X, S⟩ [oC (cSl 1 fI r171) s174.v] [rV s_b.v (cSl 3 fDPart b), rV s_a.v (cSl 3 fDPart a)] _ := hM
    refine wv rfl (r_assign rfl) ?_
    refine wl_nil ?_
    refine sq_n ?_
    refine wc_seq ?_
    refine wc_seq ?_
    refine wc_region ?_
    refine wv rfl (r_move rfl) ?_
    obtain ⟨r178, h179, hx⟩ := bind_some' hx
    refine w_call rfl rfl (hM.callO (l := []) fun X S oL hS hR hO => ct_impl_Touches _ X S a s_a hS (hR _ (.tail _ (.head _))) oL h179) ?_
    rintro _ w180 ⟨s181, rfl, hM⟩
    replace hM : St ⟨w, X, S⟩ [oC (cSl 1 fI r178) s181.v, oC (cSl 1 fI r171) s174.v] [rV s_b.v (cSl 3 fDPart b), rV s_a.v (cSl 3 fDPart a)] _ := hM
    refine wv rfl (r_lenC Try.underlying24 rfl (hM.seeO (.head _))) ?_
    refine wv rfl (r_move rfl) ?_
    refine wl_nil ?_
    refine sq_n ?_
    refine wc_block ?_
    obtain ⟨y185, hx, hx186⟩ := bind_some' hx
    replace hM : St ⟨w, X, S⟩ [oC (cSl 1 fI r171) s174.v, oC (cSl 1 fI r178) s181.v] [rV s_b.v (cSl 3 fDPart b), rV s_a.v (cSl 3 fDPart a)] _ := hM.pl [0, 1]
    have hM := hM.fewer rsN
    replace hM : St ⟨w, X, S⟩ [oC (cSl 1 fI r171) s174.v, oC (cSl 1 fI r178) s181.v] [] _ := hM
    have hl191 := Cs.le (hM.seeO (.tail _ (.head _)))
    refine wc_loop (un fun (m188 : Nat) => un fun (k189 : Nat) => fun (n187 : Int) => [(5, (.int .i64 n187)), (6, s174.v), (27, s181.v), (28, (.int .i64 (r178.length : Int))), (29, (.int .i64 (k189 : Int)))]) (un fun (m188 : Nat) => un fun (k189 : Nat) => fun (n187 : Int) w' => St ⟨w, X, S⟩ [oC (cSl 1 fI r171) s174.v, oC (cSl 1 fI r178) s181.v] [] w' ∧ eachN _ _ m188 k189 n187 = some y185 ∧ k189 + m188 = r178.length) (fun p => p.1) (r178.length, 0, 0) ⟨rfl, rfl, rfl, rfl, rfl, trivial⟩ ⟨hM, hx, Nat.zero_add _⟩ ?_
    rintro ⟨m188, k189, n187⟩ w192 ⟨hM, hx, hk190⟩
    refine wc_seq ?_
    refine wc_region ?_
    refine wv rfl (r_lss rfl rfl) ?_
    refine wl_nil ?_
    refine sq_n ?_
    refine wc_seq ?_
    refine wc_cond rfl (fun hc194 => ?_) (fun hc194 => ?_)
    · replace hc194 := of_decide_eq_true hc194
      obtain ⟨m195, z196, rfl, hk190, hx, hx197⟩ := eachN_step hx hk190 hc194
      unfold x_impl_Clashes_f0 x_impl_Clashes_b0 at hx
      try dsimp only at hx
      refine wc_skip ?_
      refine sq_n ?_
      refine wc_seq ?_
      refine wc_block ?_
      refine wc_seq ?_
      refine wc_region ?_
      refine wv rfl (r_move rfl) ?_
      have hi200 : k189 < r178.length := by omega
      refine wv rfl (r_ixC Try.underlying24 sz3 rfl rfl (hM.seeO (.tail _ (.head _))) ⟨by omega, hc194⟩) ?_
      refine wv rfl (r_ld Try.underlying3 rfl rfl (Cs.get (i := k189) (j := 0) (hM.seeO (.tail _ (.head _))) (fun _ => rfl) hi200 rfl)) ?_
      refine wv rfl (r_assign rfl) ?_
      refine wv rfl (r_assign rfl) ?_
      refine wl_nil ?_
      refine sq_n ?_
      refine wc_region ?_
      refine wv rfl (r_move rfl) ?_
      refine wv rfl (r_move rfl) ?_
      refine wv rfl (r_move rfl) ?_
      refine wv rfl (r_move rfl) ?_
      obtain ⟨hg210, hx⟩ := xg_some hx
      have hi209 : k189 < r171.length := by omega
      refine wv rfl (r_ixC Try.underlying24 sz3 rfl rfl (hM.seeO (.head _)) hg210) ?_
      refine wv rfl (r_ld Try.underlying3 rfl rfl (Cs.get (i := k189) (j := 0) (hM.seeO (.head _)) (fun _ => rfl) hi209 rfl)) ?_
      obtain ⟨hg213, hx⟩ := xg_some hx
      refine wv rfl (r_mul rfl rfl hg213) ?_
      obtain ⟨hg215, hx⟩ := xg_some hx
      refine wv rfl (r_add rfl rfl hg215) ?_
      refine wv rfl (r_assign rfl) ?_
      refine wl_nil ?_
      refine bk_n ?_
      refine sq_n ?_
      refine wc_region ?_
      refine wv rfl (r_add rfl rfl ⟨by omega, by omega⟩) ?_
      refine wv rfl (r_move rfl) ?_
      refine wl_nil ?_
      obtain rfl := Option.some.inj hx
      exact lp_end (m195, k189 + 1, n187 + ((el r178 k189) * (el r171 k189))) (Nat.lt_succ_self _) ⟨rfl, rfl, rfl, rfl, rfl, trivial⟩ ⟨hM, hx197, hk190⟩
    · replace hc194 := of_decide_eq_false hc194
      obtain rfl := eachN_end hx hk190 hc194
      refine wc_exit ?_
      refine sq_exit ?_
      refine lp1_exit ?_
      replace hx := hx186
      try dsimp only [Sum.elim_inl, Sum.elim_inr] at hx
      refine bk_here ?_
      refine sq_n ?_
      refine wc_seq ?_
      refine wc_region ?_
      refine wv rfl (r_move rfl) ?_
      refine wv rfl (r_assign rfl) ?_
      refine wl_nil ?_
      refine sq_n ?_
      refine wc_ret ?_
      obtain rfl := Option.some.inj hx
      refine fin_ret [(.int .i64 n187)] ⟨rfl, trivial⟩ ?_
      replace hM : St ⟨w, X, S⟩ [] [] _ := hM.tk 0
      have hM := hM.fewer rsN
      exact ⟨(), rfl, hM.gives⟩

noncomputable def x_spec_Clashes_b0 (r10 : List Int) (r3 : List Int) (k55 : Nat) (x105 : Int) (n56 : Int) : Option (Lr Int Int) :=
  xg (0 ≤ (k55 : Int) ∧ (k55 : Int) < (r10.length : Int)) <| xg (inI (x105 * (el r10 k55))) <| xg (inI (n56 + (x105 * (el r10 k55)))) <| some (Lr.go (n56 + (x105 * (el r10 k55))))
noncomputable def x_spec_Clashes_f0 (r10 : List Int) (r3 : List Int) (k55 : Nat) (s106 : Int) : Option (Lr Int Int) := x_spec_Clashes_b0 r10 r3 k55 (el r3 k55) s106
noncomputable def x_spec_Clashes (a : List DPart) (b : List DPart) : Option Int :=
  Option.bind (x_spec_Touches a) fun r3 => Option.bind (x_spec_Touches b) fun r10 => Option.bind (x_spec_OpOk a) fun r17 => Option.bind (bif !r17 then (some true) else (Option.bind (x_spec_OpOk b) fun r32 => some (!r32))) fun c23 => Option.bind (bif c23 then (some true) else (some (!decide ((r3.length : Int) = (r10.length : Int))))) fun c38 => bif c38 then (some (-1)) else (Option.bind (eachN (x_spec_Clashes_f0 r10 r3) (fun (s106 : Int) => (s106 : Int)) r3.length 0 0) fun (y107 : Int) => some y107)
theorem ct_spec_Clashes (w : World) (X S : Bs) (a : List DPart) (s_a : Sv) (b : List DPart) (s_b : Sv) (hS : ∀ b, S b → b < w.heap.size ∧ ¬ X b) (a_a_0 : (cSl 3 fDPart a).rd S w s_a.v) (a_b_0 : (cSl 3 fDPart b).rd S w s_b.v) (oL : Sep [] X w) {r : Int} (hx : x_spec_Clashes a b = some r) :
    Ret Try.prog 24 [s_a.v, s_b.v] w (fun u w' => ∃ _ : Unit, u = (.int .i64 r) ∧ Gives X S w [] [] w') := by
  unfold x_spec_Clashes at hx
  refine enter Try.func24 rfl Try.ntmps24 (by kernel_rfl) rfl ?_
  have hM := St.enter oL hS
  have hM := hM.addE (r := rV s_a.v (cSl 3 fDPart a)) a_a_0
  have hM := hM.addE (r := rV s_b.v (cSl 3 fDPart b)) a_b_0
  refine wc_seq ?_
  refine wc_region ?_
  refine wv rfl (r_assign rfl) ?_
  refine wl_nil ?_
  refine sq_n ?_
  refine wc_seq ?_
  refine wc_region ?_
  refine wv rfl (r_move rfl) ?_
  obtain ⟨r112, h113, hx⟩ := bind_some' hx
  refine w_call rfl rfl (hM.callO (l := []) fun X S oL hS hR hO => ct_spec_Touches _ X S a s_a hS (hR _ (.tail _ (.head _))) oL h113) ?_
  rintro _ w114 ⟨s115, rfl, hM⟩
  replace hM : St ⟨w, X, S⟩ [oC (cSl 1 fI r112) s115.v] [rV s_b.v (cSl 3 fDPart b), rV s_a.v (cSl 3 fDPart a)] _ := hM
  refine wv rfl (r_assign rfl) ?_
  refine wl_nil ?_
  refine sq_n ?_
  refine wc_seq ?_
  refine wc_region ?_
  refine wv rfl (r_move rfl) ?_
  obtain ⟨r119, h120, hx⟩ := bind_some' hx
  refine w_call rfl rfl (hM.callO (l := []) fun X S oL hS hR hO => ct_spec_Touches _ X S b s_b hS (hR _ (.head _)) oL h120) ?_
  rintro _ w121 ⟨s122, rfl, hM⟩
  replace hM : St ⟨w, X, S⟩ [oC (cSl 1 fI r119) s122.v, oC (cSl 1 fI r112) s115.v] [rV s_b.v (cSl 3 fDPart b), rV s_a.v (cSl 3 fDPart a)] _ := hM
  refine wv rfl (r_assign rfl) ?_
  refine wl_nil ?_
  refine sq_n ?_
  refine wc_seq ?_
  refine wc_seq ?_
  refine wc_region ?_
  refine wv rfl (r_move rfl) ?_
  obtain ⟨r126, h127, hx⟩ := bind_some' hx
  refine w_call rfl rfl (hM.callV fun X S oL hS hR hO => ct_spec_OpOk _ X S a s_a hS (hR _ (.tail _ (.head _))) oL h127) ?_
  rintro _ w128 ⟨rfl, hR129⟩
  have hM := hM.call hR129
  refine wv rfl (r_not rfl) ?_
  refine wv rfl (r_move rfl) ?_
  obtain ⟨c132, hx, hx140⟩ := bind_some' hx
  refine wl_mid 4 (fun _ : Unit => [(20, (.bool c132)), (5, s115.v), (6, s122.v)]) (fun _ w' => St ⟨w, X, S⟩ [oC (cSl 1 fI r119) s122.v, oC (cSl 1 fI r112) s115.v] [rV s_b.v (cSl 3 fDPart b), rV s_a.v (cSl 3 fDPart a)] w') ?_ ?_
  · rcases Bool.eq_false_or_eq_true (!r126) with hg133 | hg133
    · replace hx := xif_t hg133 hx
      refine gs rfl (isB_no hg133) rfl ?_
      refine gs rfl (isB_no hg133) rfl ?_
      refine gs rfl (isB_no hg133) rfl ?_
      refine wv rfl (p_t rfl hg133 rfl) ?_
      obtain rfl := Option.some.inj hx
      exact mid_nil () ⟨rfl, rfl, rfl, trivial⟩ hM
    · replace hx := xif_f hg133 hx
      refine gv rfl hg133 rfl (r_move rfl) ?_
      obtain ⟨r142, h143, hx⟩ := bind_some' hx
      refine gc rfl hg133 rfl rfl (hM.callV fun X S oL hS hR hO => ct_spec_OpOk _ X S b s_b hS (hR _ (.head _)) oL h143) ?_
      rintro _ w144 ⟨rfl, hR145⟩
      have hM := hM.call hR145
      refine gv rfl hg133 rfl (r_not rfl) ?_
      refine wv rfl (p_f rfl hg133 rfl) ?_
      obtain rfl := Option.some.inj hx
      exact mid_nil () ⟨rfl, rfl, rfl, trivial⟩ hM
  rintro _ w147 hM
  replace hx := hx140
  refine wv rfl (r_move rfl) ?_
  obtain ⟨c149, hx, hx156⟩ := bind_some' hx
  refine wl_mid 6 (fun _ : Unit => [(27, (.bool c149)), (5, s115.v), (6, s122.v)]) (fun _ w' => St ⟨w, X, S⟩ [oC (cSl 1 fI r119) s122.v, oC (cSl 1 fI r112) s115.v] [rV s_b.v (cSl 3 fDPart b), rV s_a.v (cSl 3 fDPart a)] w') ?_ ?_
  · rcases Bool.eq_false_or_eq_true c132 with hg150 | hg150
    · replace hx := xif_t hg150 hx
      refine gs rfl (isB_no hg150) rfl ?_
      refine gs rfl (isB_no hg150) rfl ?_
      refine gs rfl (isB_no hg150) rfl ?_
      refine gs rfl (isB_no hg150) rfl ?_
      refine gs rfl (isB_no hg150) rfl ?_
      refine wv rfl (p_t rfl hg150 rfl) ?_
      obtain rfl := Option.some.inj hx
      exact mid_nil () ⟨rfl, rfl, rfl, trivial⟩ hM
    · replace hx := xif_f hg150 hx
      refine gv rfl hg150 rfl (r_move rfl) ?_
      refine gv rfl hg150 rfl (r_lenC Try.underlying24 rfl (hM.seeO (.tail _ (.head _)))) ?_
      refine gv rfl hg150 rfl (r_move rfl) ?_
      refine gv rfl hg150 rfl (r_lenC Try.underlying24 rfl (hM.seeO (.head _))) ?_
      refine gv rfl hg150 rfl (r_neq rfl rfl) ?_
      refine wv rfl (p_f rfl hg150 rfl) ?_
      obtain rfl := Option.some.inj hx
      exact mid_nil () ⟨rfl, rfl, rfl, trivial⟩ hM
  rintro _ w162 hM
  replace hx := hx156
  refine wl_nil ?_
  refine sq_n ?_
  refine wc_cond rfl (fun hc163 => ?_) (fun hc163 => ?_)
  · replace hx := xif_t hc163 hx
    refine wc_seq ?_
    refine wc_region ?_
    refine wv rfl (r_assign rfl) ?_
    refine wl_nil ?_
    refine sq_n ?_
    refine wc_ret ?_
    refine sq_ret ?_
    obtain rfl := Option.some.inj hx
    refine fin_ret [(.int .i64 (-1))] ⟨rfl, trivial⟩ ?_
    replace hM : St ⟨w, X, S⟩ [] [rV s_b.v (cSl 3 fDPart b), rV s_a.v (cSl 3 fDPart a)] _ := hM.tk 0
    have hM := hM.fewer rsN
    exact ⟨(), rfl, hM.gives⟩
  · replace hx := xif_f hc163 hx
    refine wc_skip ?_
    refine sq_n ?_
    refine wc_seq ?_
    refine wc_region ?_
    refine wv rfl (r_assign rfl) ?_
    refine wl_nil ?_
    refine sq_n ?_
    refine wc_seq ?_
    refine wc_seq ?_
    refine wc_region ?_
    refine wv rfl (r_move rfl) ?_
    refine wv rfl (r_lenC Try.underlying24 rfl (hM.seeO (.tail _ (.head _)))) ?_
    refine wv rfl (r_move rfl) ?_
    refine wl_nil ?_
    refine sq_n ?_
    refine wc_block ?_
    obtain ⟨y169, hx, hx170⟩ := bind_some' hx
    replace hM : St ⟨w, X, S⟩ [oC (cSl 1 fI r112) s115.v, oC (cSl 1 fI r119) s122.v] [rV s_b.v (cSl 3 fDPart b), rV s_a.v (cSl 3 fDPart a)] _ := hM.pl [0, 1]
    have hM := hM.fewer rsN
    replace hM : St ⟨w, X, S⟩ [oC (cSl 1 fI r112) s115.v, oC (cSl 1 fI r119) s122.v] [] _ := hM
    have hl175 := Cs.le (hM.seeO (.head _))
    refine wc_loop (un fun (m172 : Nat) => un fun (k173 : Nat) => fun (n171 : Int) => [(5, s115.v), (6, s122.v), (7, (.int .i64 n171)), (29, (.int .i64 (r112.length : Int))), (30, (.int .i64 (k173 : Int)))]) (un fun (m172 : Nat) => un fun (k173 : Nat) => fun (n171 : Int) w' => St ⟨w, X, S⟩ [oC (cSl 1 fI r112) s115.v, oC (cSl 1 fI r119) s122.v] [] w' ∧ eachN _ _ m172 k173 n171 = some y169 ∧ k173 + m172 = r112.length) (fun p => p.1) (r112.length, 0, 0) ⟨rfl, rfl, rfl, rfl, rfl, trivial⟩ ⟨hM, hx, Nat.zero_add _⟩ ?_
    rintro ⟨m172, k173, n171⟩ w176 ⟨hM, hx, hk174⟩
    refine wc_seq ?_
    refine wc_region ?_
    refine wv rfl (r_lss rfl rfl) ?_
    refine wl_nil ?_
    refine sq_n ?_
    refine wc_seq ?_
    refine wc_cond rfl (fun hc178 => ?_) (fun hc178 => ?_)
    · replace hc178 := of_decide_eq_true hc178
      obtain ⟨m179, z180, rfl, hk174, hx, hx181⟩ := eachN_step hx hk174 hc178
      unfold x_spec_Clashes_f0 x_spec_Clashes_b0 at hx
      try dsimp only at hx
      refine wc_skip ?_
      refine sq_n ?_
      refine wc_seq ?_
      refine wc_block ?_
      refine wc_seq ?_
      refine wc_region ?_
      refine wv rfl (r_move rfl) ?_
      refine wv rfl (r_assign rfl) ?_
      refine wl_nil ?_
      refine sq_n ?_
      refine wc_draw [(0, 0), (1, 0), (2, 0), (3, 0), (4, 0), (5, 0), (6, 0), (7, 0), (8, 0), (9, 0), (10, 0), (11, 0)] Try_mixed (by kernel_rfl) rfl (by kernel_rfl) rfl ?_
      refine ov rfl (fun w' h' => r_move rfl) ?_
      refine ov rfl (fun w' h' => r_move rfl) ?_
      refine ov rfl (fun w' h' => r_move rfl) ?_
      have hi188 : k173 < r112.length := by omega
      refine ov rfl (fun w' h' => r_ixC Try.underlying24 sz3 rfl rfl ((hM.call h').seeO (.head _)) ⟨by omega, hc178⟩) ?_
      refine ov rfl (fun w' h' => r_ld Try.underlying3 rfl rfl (Cs.get (i := k173) (j := 0) ((hM.call h').seeO (.head _)) (fun _ => rfl) hi188 rfl)) ?_
      refine ov rfl (fun w' h' => r_move rfl) ?_
      refine ov rfl (fun w' h' => r_move rfl) ?_
      obtain ⟨hg194, hx⟩ := xg_some hx
      have hi193 : k173 < r119.length := by omega
      refine ov rfl (fun w' h' => r_ixC Try.underlying24 sz3 rfl rfl ((hM.call h').seeO (.tail _ (.head _))) hg194) ?_
      refine ov rfl (fun w' h' => r_ld Try.underlying3 rfl rfl (Cs.get (i := k173) (j := 0) ((hM.call h').seeO (.tail _ (.head _))) (fun _ => rfl) hi193 rfl)) ?_
      obtain ⟨hg197, hx⟩ := xg_some hx
      refine ov rfl (fun w' h' => r_mul rfl rfl hg197) ?_
      obtain ⟨hg199, hx⟩ := xg_some hx
      refine ov rfl (fun w' h' => r_add rfl rfl hg199) ?_
      refine ov rfl (fun w' h' => r_assign rfl) ?_
      refine o_nil fun w201 hw202 => ?_
      have hM := hM.call hw202
      refine bk_n ?_
      refine sq_n ?_
      refine wc_region ?_
      refine wv rfl (r_add rfl rfl ⟨by omega, by omega⟩) ?_
      refine wv rfl (r_move rfl) ?_
      refine wl_nil ?_
      obtain rfl := Option.some.inj hx
      exact lp_end (m179, k173 + 1, n171 + ((el r112 k173) * (el r119 k173))) (Nat.lt_succ_self _) ⟨rfl, rfl, rfl, rfl, rfl, trivial⟩ ⟨hM, hx181, hk174⟩
    · replace hc178 := of_decide_eq_false hc178
      obtain rfl := eachN_end hx hk174 hc178
      refine wc_exit ?_
      refine sq_exit ?_
      refine lp1_exit ?_
      replace hx := hx170
      try dsimp only [Sum.elim_inl, Sum.elim_inr] at hx
      refine bk_here ?_
      refine sq_n ?_
      refine wc_seq ?_
      refine wc_region ?_
      refine wv rfl (r_move rfl) ?_
      refine wv rfl (r_assign rfl) ?_
      refine wl_nil ?_
      refine sq_n ?_
      refine wc_ret ?_
      obtain rfl := Option.some.inj hx
      refine fin_ret [(.int .i64 n171)] ⟨rfl, trivial⟩ ?_
      replace hM : St ⟨w, X, S⟩ [] [] _ := hM.tk 0
      have hM := hM.fewer rsN
      exact ⟨(), rfl, hM.gives⟩

noncomputable def x_impl_Apart (a : List DPart) (b : List DPart) : Option Bool :=
  Option.bind (x_impl_Clashes a b) fun r4 => some (decide (r4 = 0))
theorem ct_impl_Apart (w : World) (X S : Bs) (a : List DPart) (s_a : Sv) (b : List DPart) (s_b : Sv) (hS : ∀ b, S b → b < w.heap.size ∧ ¬ X b) (a_a_0 : (cSl 3 fDPart a).rd S w s_a.v) (a_b_0 : (cSl 3 fDPart b).rd S w s_b.v) (oL : Sep [] X w) {r : Bool} (hx : x_impl_Apart a b = some r) :
    Ret Try.prog 27 [s_a.v, s_b.v] w (fun u w' => ∃ _ : Unit, u = (.bool r) ∧ Gives X S w [] [] w') := by
  unfold x_impl_Apart at hx
  refine enter Try.func27 rfl Try.ntmps27 (by kernel_rfl) rfl ?_
  have hM := St.enter oL hS
  have hM := hM.addE (r := rV s_a.v (cSl 3 fDPart a)) a_a_0
  have hM := hM.addE (r := rV s_b.v (cSl 3 fDPart b)) a_b_0
  refine wc_seq ?_
  refine wc_region ?_
  refine wv rfl (r_assign rfl) ?_
  refine wl_nil ?_
  refine sq_n ?_
  refine wc_seq ?_
  refine wc_region ?_
  refine wv rfl (r_move rfl) ?_
  refine wv rfl (r_move rfl) ?_
  obtain ⟨r13, h14, hx⟩ := bind_some' hx
  refine w_call rfl rfl (hM.callV fun X S oL hS hR hO => ct_impl_Clashes _ X S a s_a b s_b hS (hR _ (.tail _ (.head _))) (hR _ (.head _)) oL h14) ?_
  rintro _ w15 ⟨rfl, hR16⟩
  have hM := hM.call hR16
  refine wv rfl (r_eql rfl rfl) ?_
  refine wv rfl (r_assign rfl) ?_
  refine wl_nil ?_
  refine sq_n ?_
  refine wc_ret ?_
  obtain rfl := Option.some.inj hx
  refine fin_ret [(.bool (decide (r13 = 0)))] ⟨rfl, trivial⟩ ?_
  replace hM : St ⟨w, X, S⟩ [] [rV s_b.v (cSl 3 fDPart b), rV s_a.v (cSl 3 fDPart a)] _ := hM.tk 0
  have hM := hM.fewer rsN
  exact ⟨(), rfl, hM.gives⟩

noncomputable def x_spec_Apart (a : List DPart) (b : List DPart) : Option Bool :=
  Option.bind (x_spec_Clashes a b) fun r4 => some (decide (r4 = 0))
theorem ct_spec_Apart (w : World) (X S : Bs) (a : List DPart) (s_a : Sv) (b : List DPart) (s_b : Sv) (hS : ∀ b, S b → b < w.heap.size ∧ ¬ X b) (a_a_0 : (cSl 3 fDPart a).rd S w s_a.v) (a_b_0 : (cSl 3 fDPart b).rd S w s_b.v) (oL : Sep [] X w) {r : Bool} (hx : x_spec_Apart a b = some r) :
    Ret Try.prog 26 [s_a.v, s_b.v] w (fun u w' => ∃ _ : Unit, u = (.bool r) ∧ Gives X S w [] [] w') := by
  unfold x_spec_Apart at hx
  refine enter Try.func26 rfl Try.ntmps26 (by kernel_rfl) rfl ?_
  have hM := St.enter oL hS
  have hM := hM.addE (r := rV s_a.v (cSl 3 fDPart a)) a_a_0
  have hM := hM.addE (r := rV s_b.v (cSl 3 fDPart b)) a_b_0
  refine wc_seq ?_
  refine wc_region ?_
  refine wv rfl (r_assign rfl) ?_
  refine wl_nil ?_
  refine sq_n ?_
  refine wc_seq ?_
  refine wc_region ?_
  refine wv rfl (r_move rfl) ?_
  refine wv rfl (r_move rfl) ?_
  obtain ⟨r13, h14, hx⟩ := bind_some' hx
  refine w_call rfl rfl (hM.callV fun X S oL hS hR hO => ct_spec_Clashes _ X S a s_a b s_b hS (hR _ (.tail _ (.head _))) (hR _ (.head _)) oL h14) ?_
  rintro _ w15 ⟨rfl, hR16⟩
  have hM := hM.call hR16
  refine wv rfl (r_eql rfl rfl) ?_
  refine wv rfl (r_assign rfl) ?_
  refine wl_nil ?_
  refine sq_n ?_
  refine wc_ret ?_
  obtain rfl := Option.some.inj hx
  refine fin_ret [(.bool (decide (r13 = 0)))] ⟨rfl, trivial⟩ ?_
  replace hM : St ⟨w, X, S⟩ [] [rV s_b.v (cSl 3 fDPart b), rV s_a.v (cSl 3 fDPart a)] _ := hM.tk 0
  have hM := hM.fewer rsN
  exact ⟨(), rfl, hM.gives⟩

end Go.Proofs.Ytnpfbhejekpmaaa
