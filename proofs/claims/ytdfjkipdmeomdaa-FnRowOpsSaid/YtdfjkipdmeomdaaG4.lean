/- Walks of functions of this program (printed by a program of ours, by the rules of the layer). No condition. -/
import Derived.Test.YtdfjkipdmeomdaaG3
import Derived.Test.YtdfjkipdmeomdaaNr
namespace Go.Proofs.Ytdfjkipdmeomdaa
open Go.RowKit

noncomputable def x_impl_normalOr (o : List DPart) : Option (List DPart × Bool) :=
  Option.bind (x_impl_OpOk o) fun r4 => bif !r4 then (some ([], false)) else (Option.bind (x_impl_OpNorm o) fun r12 => some (r12, true))
theorem ct_impl_normalOr (w : World) (X S : Bs) (o : List DPart) (s_o : Sv) (hS : ∀ b, S b → b < w.heap.size ∧ ¬ X b) (a_o_0 : (cSl 3 fDPart o).rd S w s_o.v) (oL : Sep [] X w) {r : List DPart × Bool} (hx : x_impl_normalOr o = some r) :
    Ret Try.prog 75 [s_o.v] w (fun u w' => ∃ y : Sv, u = .tuple #[y.v, (.bool r.2)] ∧ Gives X S w [oC (cSl 3 fDPart r.1) y.v] [] w') := by
  unfold x_impl_normalOr at hx
  refine enter Try.func75 rfl Try.ntmps75 (by kernel_rfl) rfl ?_
  have hM := St.enter oL hS
  have hM := hM.addE (r := rV s_o.v (cSl 3 fDPart o)) a_o_0
  refine wc_seq ?_
  refine wc_region ?_
  refine wv rfl (r_assign rfl) ?_
  refine wv rfl (r_assign rfl) ?_
  refine wl_nil ?_
  refine sq_n ?_
  refine wc_seq ?_
  refine wc_seq ?_
  refine wc_region ?_
  refine wv rfl (r_move rfl) ?_
  obtain ⟨r22, h23, hx⟩ := bind_some' hx
  refine w_call rfl rfl (hM.callV fun X S oL hS hR hO => ct_impl_OpOk _ X S o s_o hS (hR _ (.head _)) oL h23) ?_
  rintro _ w24 ⟨rfl, hR25⟩
  have hM := hM.call hR25
  refine wv rfl (r_not rfl) ?_
  refine wl_nil ?_
  refine sq_n ?_
  refine wc_cond rfl (fun hc27 => ?_) (fun hc27 => ?_)
  · replace hx := xif_t hc27 hx
    refine wc_seq ?_
    refine wc_region ?_
    refine wv rfl (r_assign rfl) ?_
    refine wv rfl (r_assign rfl) ?_
    refine wl_nil ?_
    refine sq_n ?_
    refine wc_ret ?_
    refine sq_ret ?_
    obtain rfl := Option.some.inj hx
    have hM := hM.nil0 (T := DPart) 3 fDPart
    refine fin_ret [nS.v, (.bool false)] ⟨rfl, rfl, trivial⟩ ?_
    replace hM := hM.t1
    have hM := hM.fewer rsN
    exact ⟨nS, rfl, hM.gives⟩
  · replace hx := xif_f hc27 hx
    refine wc_skip ?_
    refine sq_n ?_
    refine wc_seq ?_
    refine wc_region ?_
    refine wv rfl (r_move rfl) ?_
    obtain ⟨r32, h33, hx⟩ := bind_some' hx
    refine w_call rfl rfl (hM.callO (l := []) fun X S oL hS hR hO => ct_impl_OpNorm _ X S o s_o hS (hR _ (.head _)) oL h33) ?_
    rintro _ w34 ⟨s35, rfl, hM⟩
    replace hM : St ⟨w, X, S⟩ [oC (cSl 3 fDPart r32) s35.v] [rV s_o.v (cSl 3 fDPart o)] _ := hM
    refine wv rfl (r_assign rfl) ?_
    refine wv rfl (r_assign rfl) ?_
    refine wl_nil ?_
    refine sq_n ?_
    refine wc_ret ?_
    obtain rfl := Option.some.inj hx
    refine fin_ret [s35.v, (.bool true)] ⟨rfl, rfl, trivial⟩ ?_
    replace hM := hM.t1
    have hM := hM.fewer rsN
    exact ⟨s35, rfl, hM.gives⟩

noncomputable def x_impl_PutAt (n : Int) (at_ : Int) (l : List Int) : Option (List DPart × Bool) :=
  Option.bind (x_impl_within at_ 0 n) fun r5 => bif !r5 then (some ([], false)) else (xg (inI (n - at_)) <| Option.bind (x_impl_normalOr [(⟨1, at_, []⟩ : DPart), (⟨2, 0, l⟩ : DPart), (⟨1, n - at_, []⟩ : DPart)]) fun r25 => some (r25.1, r25.2))
theorem ct_impl_PutAt (w : World) (X S : Bs) (n : Int) (at_ : Int) (l : List Int) (s_l : Sv) (hS : ∀ b, S b → b < w.heap.size ∧ ¬ X b) (a_l_0 : (cSl 1 fI l).rd S w s_l.v) (oL : Sep [] X w) {r : List DPart × Bool} (hx : x_impl_PutAt n at_ l = some r) :
    Ret Try.prog 45 [(.int .i64 n), (.int .i64 at_), s_l.v] w (fun u w' => ∃ y : Sv, u = .tuple #[y.v, (.bool r.2)] ∧ Gives X S w [oC (cSl 3 fDPart r.1) y.v] [] w') := by
  unfold x_impl_PutAt at hx
  refine enter Try.func45 rfl Try.ntmps45 (by kernel_rfl) rfl ?_
  have hM := St.enter oL hS
  have hM := hM.addE (r := rV s_l.v (cSl 1 fI l)) a_l_0
  refine wc_seq ?_
  refine wc_region ?_
  refine wv rfl (r_assign rfl) ?_
  refine wv rfl (r_assign rfl) ?_
  refine wl_nil ?_
  refine sq_n ?_
  refine wc_seq ?_
  refine wc_seq ?_
  refine wc_region ?_
  refine wv rfl (r_move rfl) ?_
  refine wv rfl (r_move rfl) ?_
  obtain ⟨r38, h39, hx⟩ := bind_some' hx
  refine w_call rfl rfl (hM.callV fun X S oL hS hR hO => ct_impl_within _ X S at_ (0 : Int) n hS  oL h39) ?_
  rintro _ w40 ⟨rfl, hR41⟩
  have hM := hM.call hR41
  refine wv rfl (r_not rfl) ?_
  refine wl_nil ?_
  refine sq_n ?_
  refine wc_cond rfl (fun hc43 => ?_) (fun hc43 => ?_)
  · replace hx := xif_t hc43 hx
    refine wc_seq ?_
    refine wc_region ?_
    refine wv rfl (r_assign rfl) ?_
    refine wv rfl (r_assign rfl) ?_
    refine wl_nil ?_
    refine sq_n ?_
    refine wc_ret ?_
    refine sq_ret ?_
    obtain rfl := Option.some.inj hx
    have hM := hM.nil0 (T := DPart) 3 fDPart
    refine fin_ret [nS.v, (.bool false)] ⟨rfl, rfl, trivial⟩ ?_
    replace hM := hM.t1
    have hM := hM.fewer rsN
    exact ⟨nS, rfl, hM.gives⟩
  · replace hx := xif_f hc43 hx
    refine wc_skip ?_
    refine sq_n ?_
    refine wc_seq ?_
    refine wc_region ?_
    refine wv rfl (r_move rfl) ?_
    refine wv rfl (r_build (cells := #[(.int .i64 1), (.int .i64 at_), (.slice none 0 0)]) rfl (by kernel_rfl)) ?_
    refine wv rfl (r_move rfl) ?_
    refine wv rfl (r_build (cells := #[(.int .i64 2), (.int .i64 0), s_l.v]) rfl (by kernel_rfl)) ?_
    refine wv rfl (r_move rfl) ?_
    refine wv rfl (r_move rfl) ?_
    obtain ⟨hg54, hx⟩ := xg_some hx
    refine wv rfl (r_sub rfl rfl hg54) ?_
    refine wv rfl (r_build (cells := #[(.int .i64 1), (.int .i64 (n - at_)), (.slice none 0 0)]) rfl (by kernel_rfl)) ?_
    refine w_ex rfl (x_litS (f := fDPart) [(⟨1, at_, []⟩ : DPart), (⟨2, 0, l⟩ : DPart), (⟨1, n - at_, []⟩ : DPart)] [(.int .i64 1), (.int .i64 at_), (.slice none 0 0), (.int .i64 2), (.int .i64 0), s_l.v, (.int .i64 1), (.int .i64 (n - at_)), (.slice none 0 0)] 3 Try.underlying23 sz67 rfl rfl rfl rfl rfl (by kernel_rfl) (fun S w hR => ⟨_, _, rfl, rfl, ⟨_, _, rfl, rfl, ⟨_, _, rfl, rd_nil _ _, ⟨_, _, rfl, rfl, ⟨_, _, rfl, rfl, ⟨_, _, rfl, hR _ (.head _), ⟨_, _, rfl, rfl, ⟨_, _, rfl, rfl, ⟨_, _, rfl, rd_nil _ _, rfl⟩⟩⟩⟩⟩⟩⟩⟩⟩) hM ?_); intro s57 w56 hR58 hM
    have hM := hM.sealS (fun _ => rfl) (.head _)
    obtain ⟨r60, h61, hx⟩ := bind_some' hx
    refine w_call rfl rfl (hM.callO (l := []) fun X S oL hS hR hO => ct_impl_normalOr _ X S [(⟨1, at_, []⟩ : DPart), (⟨2, 0, l⟩ : DPart), (⟨1, n - at_, []⟩ : DPart)] s57 hS (hR _ (.head _)) oL h61) ?_
    rintro _ w62 ⟨s63, rfl, hM⟩
    replace hM : St ⟨w, X, S⟩ [oC (cSl 3 fDPart r60.1) s63.v] [rV s57.v (cSl 3 fDPart [(⟨1, at_, []⟩ : DPart), (⟨2, 0, l⟩ : DPart), (⟨1, n - at_, []⟩ : DPart)]), rX [(.int .i64 1), (.int .i64 at_), (.slice none 0 0), (.int .i64 2), (.int .i64 0), s_l.v, (.int .i64 1), (.int .i64 (n - at_)), (.slice none 0 0)] (([(⟨1, at_, []⟩ : DPart), (⟨2, 0, l⟩ : DPart), (⟨1, n - at_, []⟩ : DPart)] : List DPart).flatMap fDPart), rV s_l.v (cSl 1 fI l)] _ := hM
    refine wv rfl (r_extract rfl rfl) ?_
    refine wv rfl (r_extract rfl rfl) ?_
    refine wv rfl (r_assign rfl) ?_
    refine wv rfl (r_assign rfl) ?_
    refine wl_nil ?_
    refine sq_n ?_
    refine wc_ret ?_
    obtain rfl := Option.some.inj hx
    refine fin_ret [s63.v, (.bool r60.2)] ⟨rfl, rfl, trivial⟩ ?_
    replace hM := hM.t1
    have hM := hM.fewer rsN
    exact ⟨s63, rfl, hM.gives⟩

noncomputable def x_impl_DropAt (n : Int) (at_ : Int) (many : Int) : Option (List DPart × Bool) :=
  Option.bind (x_impl_within at_ 0 n) fun r5 => Option.bind (bif !r5 then (some true) else (xg (inI (n - at_)) <| Option.bind (x_impl_within many 0 (n - at_)) fun r28 => some (!r28))) fun c11 => bif c11 then (some ([], false)) else (xg (inI (n - at_)) <| xg (inI ((n - at_) - many)) <| Option.bind (x_impl_normalOr [(⟨1, at_, []⟩ : DPart), (⟨3, many, []⟩ : DPart), (⟨1, (n - at_) - many, []⟩ : DPart)]) fun r51 => some (r51.1, r51.2))
theorem ct_impl_DropAt (w : World) (X S : Bs) (n : Int) (at_ : Int) (many : Int) (hS : ∀ b, S b → b < w.heap.size ∧ ¬ X b)  (oL : Sep [] X w) {r : List DPart × Bool} (hx : x_impl_DropAt n at_ many = some r) :
    Ret Try.prog 56 [(.int .i64 n), (.int .i64 at_), (.int .i64 many)] w (fun u w' => ∃ y : Sv, u = .tuple #[y.v, (.bool r.2)] ∧ Gives X S w [oC (cSl 3 fDPart r.1) y.v] [] w') := by
  unfold x_impl_DropAt at hx
  refine enter Try.func56 rfl Try.ntmps56 (by kernel_rfl) rfl ?_
  have hM := St.enter oL hS
  refine wc_seq ?_
  refine wc_region ?_
  refine wv rfl (r_assign rfl) ?_
  refine wv rfl (r_assign rfl) ?_
  refine wl_nil ?_
  refine sq_n ?_
  refine wc_seq ?_
  refine wc_seq ?_
  refine wc_region ?_
  refine wv rfl (r_move rfl) ?_
  refine wv rfl (r_move rfl) ?_
  obtain ⟨r64, h65, hx⟩ := bind_some' hx
  refine w_call rfl rfl (hM.callV fun X S oL hS hR hO => ct_impl_within _ X S at_ (0 : Int) n hS  oL h65) ?_
  rintro _ w66 ⟨rfl, hR67⟩
  have hM := hM.call hR67
  refine wv rfl (r_not rfl) ?_
  refine wv rfl (r_move rfl) ?_
  obtain ⟨c70, hx, hx82⟩ := bind_some' hx
  refine wl_mid 7 (fun _ : Unit => [(19, (.bool c70)), (0, (.int .i64 n)), (1, (.int .i64 at_)), (2, (.int .i64 many))]) (fun _ w' => St ⟨w, X, S⟩ [] [] w') ?_ ?_
  · rcases Bool.eq_false_or_eq_true (!r64) with hg71 | hg71
    · replace hx := xif_t hg71 hx
      refine gs rfl (isB_no hg71) rfl ?_
      refine gs rfl (isB_no hg71) rfl ?_
      refine gs rfl (isB_no hg71) rfl ?_
      refine gs rfl (isB_no hg71) rfl ?_
      refine gs rfl (isB_no hg71) rfl ?_
      refine gs rfl (isB_no hg71) rfl ?_
      refine wv rfl (p_t rfl hg71 rfl) ?_
      obtain rfl := Option.some.inj hx
      exact mid_nil () ⟨rfl, rfl, rfl, rfl, trivial⟩ hM
    · replace hx := xif_f hg71 hx
      refine gv rfl hg71 rfl (r_move rfl) ?_
      refine gv rfl hg71 rfl (r_move rfl) ?_
      refine gv rfl hg71 rfl (r_move rfl) ?_
      obtain ⟨hg87, hx⟩ := xg_some hx
      refine gv rfl hg71 rfl (r_sub rfl rfl hg87) ?_
      obtain ⟨r88, h89, hx⟩ := bind_some' hx
      refine gc rfl hg71 rfl rfl (hM.callV fun X S oL hS hR hO => ct_impl_within _ X S many (0 : Int) (n - at_) hS  oL h89) ?_
      rintro _ w90 ⟨rfl, hR91⟩
      have hM := hM.call hR91
      refine gv rfl hg71 rfl (r_not rfl) ?_
      refine wv rfl (p_f rfl hg71 rfl) ?_
      obtain rfl := Option.some.inj hx
      exact mid_nil () ⟨rfl, rfl, rfl, rfl, trivial⟩ hM
  rintro _ w93 hM
  replace hx := hx82
  refine wl_nil ?_
  refine sq_n ?_
  refine wc_cond rfl (fun hc94 => ?_) (fun hc94 => ?_)
  · replace hx := xif_t hc94 hx
    refine wc_seq ?_
    refine wc_region ?_
    refine wv rfl (r_assign rfl) ?_
    refine wv rfl (r_assign rfl) ?_
    refine wl_nil ?_
    refine sq_n ?_
    refine wc_ret ?_
    refine sq_ret ?_
    obtain rfl := Option.some.inj hx
    have hM := hM.nil0 (T := DPart) 3 fDPart
    refine fin_ret [nS.v, (.bool false)] ⟨rfl, rfl, trivial⟩ ?_
    replace hM := hM.t1
    have hM := hM.fewer rsN
    exact ⟨nS, rfl, hM.gives⟩
  · replace hx := xif_f hc94 hx
    refine wc_skip ?_
    refine sq_n ?_
    refine wc_seq ?_
    refine wc_region ?_
    refine wv rfl (r_move rfl) ?_
    refine wv rfl (r_build (cells := #[(.int .i64 1), (.int .i64 at_), (.slice none 0 0)]) rfl (by kernel_rfl)) ?_
    refine wv rfl (r_move rfl) ?_
    refine wv rfl (r_build (cells := #[(.int .i64 3), (.int .i64 many), (.slice none 0 0)]) rfl (by kernel_rfl)) ?_
    refine wv rfl (r_move rfl) ?_
    refine wv rfl (r_move rfl) ?_
    obtain ⟨hg105, hx⟩ := xg_some hx
    refine wv rfl (r_sub rfl rfl hg105) ?_
    refine wv rfl (r_move rfl) ?_
    obtain ⟨hg108, hx⟩ := xg_some hx
    refine wv rfl (r_sub rfl rfl hg108) ?_
    refine wv rfl (r_build (cells := #[(.int .i64 1), (.int .i64 ((n - at_) - many)), (.slice none 0 0)]) rfl (by kernel_rfl)) ?_
    refine w_ex rfl (x_lit (f := fDPart) (own := []) [(⟨1, at_, []⟩ : DPart), (⟨3, many, []⟩ : DPart), (⟨1, (n - at_) - many, []⟩ : DPart)] [(.int .i64 1), (.int .i64 at_), (.slice none 0 0), (.int .i64 3), (.int .i64 many), (.slice none 0 0), (.int .i64 1), (.int .i64 ((n - at_) - many)), (.slice none 0 0)] 3 Try.underlying23 sz67 (fun _ => rfl) rfl rfl rfl rfl rfl (by kernel_rfl) (fun _ => zP (pV _ rfl) (zP (pV _ rfl) (zP (pN _ _) (zP (pV _ rfl) (zP (pV _ rfl) (zP (pN _ _) (zP (pV _ rfl) (zP (pV _ rfl) (zP (pN _ _) zN))))))))) hM ?_); intro s111 w110 hR112 hM
    obtain ⟨r114, h115, hx⟩ := bind_some' hx
    refine w_call rfl rfl (hM.callO (l := []) fun X S oL hS hR hO => ct_impl_normalOr _ X S [(⟨1, at_, []⟩ : DPart), (⟨3, many, []⟩ : DPart), (⟨1, (n - at_) - many, []⟩ : DPart)] s111 hS (seeA hO (.head _)) oL h115) ?_
    rintro _ w116 ⟨s117, rfl, hM⟩
    replace hM : St ⟨w, X, S⟩ [oC (cSl 3 fDPart r114.1) s117.v, oC (cSl 3 fDPart [(⟨1, at_, []⟩ : DPart), (⟨3, many, []⟩ : DPart), (⟨1, (n - at_) - many, []⟩ : DPart)]) s111.v] [] _ := hM
    refine wv rfl (r_extract rfl rfl) ?_
    refine wv rfl (r_extract rfl rfl) ?_
    refine wv rfl (r_assign rfl) ?_
    refine wv rfl (r_assign rfl) ?_
    refine wl_nil ?_
    refine sq_n ?_
    refine wc_ret ?_
    obtain rfl := Option.some.inj hx
    refine fin_ret [s117.v, (.bool r114.2)] ⟨rfl, rfl, trivial⟩ ?_
    replace hM := hM.t1
    have hM := hM.fewer rsN
    exact ⟨s117, rfl, hM.gives⟩

noncomputable def x_spec_l06Op (n : Int) (at_ : Int) (l : List Int) (many : Int) : Option (List DPart × Bool) :=
  Option.bind (x_spec_l01In n 0 200) fun r4 => Option.bind (bif !r4 then (some true) else (Option.bind (x_spec_l01In at_ 0 n) fun r21 => some (!r21))) fun c10 => Option.bind (bif c10 then (some true) else (xg (inI (n - at_)) <| Option.bind (x_spec_l01In many 0 (n - at_)) fun r44 => some (!r44))) fun c27 => Option.bind (bif c27 then (some true) else (Option.bind (x_spec_SignsOk l) fun r59 => some (!r59))) fun c50 => Option.bind (bif c50 then (some true) else (some (decide ((200 : Int) < (l.length : Int))))) fun c65 => bif c65 then (some ([], false)) else (Option.bind (x_spec_l02Keep (⟨[], [], 0⟩ : DL02B) at_) fun r85 => Option.bind (x_spec_l02Put r85 l) fun r92 => Option.bind (x_spec_l02Drop r92 many) fun r99 => xg (inI (n - at_)) <| xg (inI ((n - at_) - many)) <| Option.bind (x_spec_l02Keep r99 ((n - at_) - many)) fun r112 => Option.bind (x_spec_l02Done r112) fun r118 => Option.bind (x_spec_OpOk r118.1) fun r127 => bif !r127 then (some ([], false)) else (some (r118.1, true)))
theorem ct_spec_l06Op (w : World) (X S : Bs) (n : Int) (at_ : Int) (l : List Int) (s_l : Sv) (many : Int) (hS : ∀ b, S b → b < w.heap.size ∧ ¬ X b) (a_l_0 : (cSl 1 fI l).rd S w s_l.v) (oL : Sep [] X w) {r : List DPart × Bool} (hx : x_spec_l06Op n at_ l many = some r) :
    Ret Try.prog 73 [(.int .i64 n), (.int .i64 at_), s_l.v, (.int .i64 many)] w (fun u w' => ∃ y : Sv, u = .tuple #[y.v, (.bool r.2)] ∧ Gives X S w [oC (cSl 3 fDPart r.1) y.v] [] w') := by
  unfold x_spec_l06Op at hx
  refine enter Try.func73 rfl Try.ntmps73 (by kernel_rfl) rfl ?_
  have hM := St.enter oL hS
  have hM := hM.addE (r := rV s_l.v (cSl 1 fI l)) a_l_0
  refine wc_seq ?_
  refine wc_region ?_
  refine wv rfl (r_assign rfl) ?_
  refine wv rfl (r_assign rfl) ?_
  refine wl_nil ?_
  refine sq_n ?_
  refine wc_seq ?_
  refine wc_seq ?_
  refine wc_region ?_
  refine wv rfl (r_move rfl) ?_
  obtain ⟨r140, h141, hx⟩ := bind_some' hx
  refine w_call rfl rfl (hM.callV fun X S oL hS hR hO => ct_spec_l01In _ X S n (0 : Int) (200 : Int) hS  oL h141) ?_
  rintro _ w142 ⟨rfl, hR143⟩
  have hM := hM.call hR143
  refine wv rfl (r_not rfl) ?_
  refine wv rfl (r_move rfl) ?_
  obtain ⟨c146, hx, hx155⟩ := bind_some' hx
  refine wl_mid 5 (fun _ : Unit => [(20, (.bool c146)), (0, (.int .i64 n)), (1, (.int .i64 at_)), (2, s_l.v), (3, (.int .i64 many))]) (fun _ w' => St ⟨w, X, S⟩ [] [rV s_l.v (cSl 1 fI l)] w') ?_ ?_
  · rcases Bool.eq_false_or_eq_true (!r140) with hg147 | hg147
    · replace hx := xif_t hg147 hx
      refine gs rfl (isB_no hg147) rfl ?_
      refine gs rfl (isB_no hg147) rfl ?_
      refine gs rfl (isB_no hg147) rfl ?_
      refine gs rfl (isB_no hg147) rfl ?_
      refine wv rfl (p_t rfl hg147 rfl) ?_
      obtain rfl := Option.some.inj hx
      exact mid_nil () ⟨rfl, rfl, rfl, rfl, rfl, trivial⟩ hM
    · replace hx := xif_f hg147 hx
      refine gv rfl hg147 rfl (r_move rfl) ?_
      refine gv rfl hg147 rfl (r_move rfl) ?_
      obtain ⟨r158, h159, hx⟩ := bind_some' hx
      refine gc rfl hg147 rfl rfl (hM.callV fun X S oL hS hR hO => ct_spec_l01In _ X S at_ (0 : Int) n hS  oL h159) ?_
      rintro _ w160 ⟨rfl, hR161⟩
      have hM := hM.call hR161
      refine gv rfl hg147 rfl (r_not rfl) ?_
      refine wv rfl (p_f rfl hg147 rfl) ?_
      obtain rfl := Option.some.inj hx
      exact mid_nil () ⟨rfl, rfl, rfl, rfl, rfl, trivial⟩ hM
  rintro _ w163 hM
  replace hx := hx155
  refine wv rfl (r_move rfl) ?_
  obtain ⟨c165, hx, hx177⟩ := bind_some' hx
  refine wl_mid 7 (fun _ : Unit => [(28, (.bool c165)), (0, (.int .i64 n)), (1, (.int .i64 at_)), (2, s_l.v), (3, (.int .i64 many))]) (fun _ w' => St ⟨w, X, S⟩ [] [rV s_l.v (cSl 1 fI l)] w') ?_ ?_
  · rcases Bool.eq_false_or_eq_true c146 with hg166 | hg166
    · replace hx := xif_t hg166 hx
      refine gs rfl (isB_no hg166) rfl ?_
      refine gs rfl (isB_no hg166) rfl ?_
      refine gs rfl (isB_no hg166) rfl ?_
      refine gs rfl (isB_no hg166) rfl ?_
      refine gs rfl (isB_no hg166) rfl ?_
      refine gs rfl (isB_no hg166) rfl ?_
      refine wv rfl (p_t rfl hg166 rfl) ?_
      obtain rfl := Option.some.inj hx
      exact mid_nil () ⟨rfl, rfl, rfl, rfl, rfl, trivial⟩ hM
    · replace hx := xif_f hg166 hx
      refine gv rfl hg166 rfl (r_move rfl) ?_
      refine gv rfl hg166 rfl (r_move rfl) ?_
      refine gv rfl hg166 rfl (r_move rfl) ?_
      obtain ⟨hg182, hx⟩ := xg_some hx
      refine gv rfl hg166 rfl (r_sub rfl rfl hg182) ?_
      obtain ⟨r183, h184, hx⟩ := bind_some' hx
      refine gc rfl hg166 rfl rfl (hM.callV fun X S oL hS hR hO => ct_spec_l01In _ X S many (0 : Int) (n - at_) hS  oL h184) ?_
      rintro _ w185 ⟨rfl, hR186⟩
      have hM := hM.call hR186
      refine gv rfl hg166 rfl (r_not rfl) ?_
      refine wv rfl (p_f rfl hg166 rfl) ?_
      obtain rfl := Option.some.inj hx
      exact mid_nil () ⟨rfl, rfl, rfl, rfl, rfl, trivial⟩ hM
  rintro _ w188 hM
  replace hx := hx177
  refine wv rfl (r_move rfl) ?_
  obtain ⟨c190, hx, hx198⟩ := bind_some' hx
  refine wl_mid 4 (fun _ : Unit => [(33, (.bool c190)), (0, (.int .i64 n)), (1, (.int .i64 at_)), (2, s_l.v), (3, (.int .i64 many))]) (fun _ w' => St ⟨w, X, S⟩ [] [rV s_l.v (cSl 1 fI l)] w') ?_ ?_
  · rcases Bool.eq_false_or_eq_true c165 with hg191 | hg191
    · replace hx := xif_t hg191 hx
      refine gs rfl (isB_no hg191) rfl ?_
      refine gs rfl (isB_no hg191) rfl ?_
      refine gs rfl (isB_no hg191) rfl ?_
      refine wv rfl (p_t rfl hg191 rfl) ?_
      obtain rfl := Option.some.inj hx
      exact mid_nil () ⟨rfl, rfl, rfl, rfl, rfl, trivial⟩ hM
    · replace hx := xif_f hg191 hx
      refine gv rfl hg191 rfl (r_move rfl) ?_
      obtain ⟨r200, h201, hx⟩ := bind_some' hx
      refine gc rfl hg191 rfl rfl (hM.callV fun X S oL hS hR hO => ct_spec_SignsOk _ X S l s_l hS (hR _ (.head _)) oL h201) ?_
      rintro _ w202 ⟨rfl, hR203⟩
      have hM := hM.call hR203
      refine gv rfl hg191 rfl (r_not rfl) ?_
      refine wv rfl (p_f rfl hg191 rfl) ?_
      obtain rfl := Option.some.inj hx
      exact mid_nil () ⟨rfl, rfl, rfl, rfl, rfl, trivial⟩ hM
  rintro _ w205 hM
  replace hx := hx198
  refine wv rfl (r_move rfl) ?_
  obtain ⟨c207, hx, hx212⟩ := bind_some' hx
  refine wl_mid 4 (fun _ : Unit => [(38, (.bool c207)), (0, (.int .i64 n)), (1, (.int .i64 at_)), (2, s_l.v), (3, (.int .i64 many))]) (fun _ w' => St ⟨w, X, S⟩ [] [rV s_l.v (cSl 1 fI l)] w') ?_ ?_
  · rcases Bool.eq_false_or_eq_true c190 with hg208 | hg208
    · replace hx := xif_t hg208 hx
      refine gs rfl (isB_no hg208) rfl ?_
      refine gs rfl (isB_no hg208) rfl ?_
      refine gs rfl (isB_no hg208) rfl ?_
      refine wv rfl (p_t rfl hg208 rfl) ?_
      obtain rfl := Option.some.inj hx
      exact mid_nil () ⟨rfl, rfl, rfl, rfl, rfl, trivial⟩ hM
    · replace hx := xif_f hg208 hx
      refine gv rfl hg208 rfl (r_move rfl) ?_
      refine gv rfl hg208 rfl (r_lenC Try.underlying22 rfl (hM.seeR (.head _))) ?_
      refine gv rfl hg208 rfl (r_gtr rfl rfl) ?_
      refine wv rfl (p_f rfl hg208 rfl) ?_
      obtain rfl := Option.some.inj hx
      exact mid_nil () ⟨rfl, rfl, rfl, rfl, rfl, trivial⟩ hM
  rintro _ w216 hM
  replace hx := hx212
  refine wl_nil ?_
  refine sq_n ?_
  refine wc_cond rfl (fun hc217 => ?_) (fun hc217 => ?_)
  · replace hx := xif_t hc217 hx
    refine wc_seq ?_
    refine wc_region ?_
    refine wv rfl (r_assign rfl) ?_
    refine wv rfl (r_assign rfl) ?_
    refine wl_nil ?_
    refine sq_n ?_
    refine wc_ret ?_
    refine sq_ret ?_
    obtain rfl := Option.some.inj hx
    have hM := hM.nil0 (T := DPart) 3 fDPart
    refine fin_ret [nS.v, (.bool false)] ⟨rfl, rfl, trivial⟩ ?_
    replace hM := hM.t1
    have hM := hM.fewer rsN
    exact ⟨nS, rfl, hM.gives⟩
  · replace hx := xif_f hc217 hx
    refine wc_skip ?_
    refine sq_n ?_
    refine wc_seq ?_
    refine wc_region ?_
    refine wv rfl (r_build (cells := #[(.slice none 0 0), (.slice none 0 0), (.int .i64 0)]) rfl (by kernel_rfl)) ?_
    refine w_ex rfl (x_box rfl hM ?_); intro b223 w222 hR224 hM
    replace hM : St ⟨w, X, S⟩ [oBox b223 #[(.slice none 0 0), (.slice none 0 0), (.int .i64 0)] 106] [rV s_l.v (cSl 1 fI l)] _ := hM
    refine wv rfl (r_assign rfl) ?_
    refine wl_nil ?_
    refine sq_n ?_
    refine wc_seq ?_
    refine wc_region ?_
    refine wv rfl (r_move rfl) ?_
    refine wv rfl (r_move rfl) ?_
    have hM := hM.nil0 (T := DPart) 3 fDPart
    have hM := hM.nil0 (T := Int) 1 fI
    replace hM := hM.p1.p2
    obtain ⟨r231, h232, hx⟩ := bind_some' hx
    refine w_call rfl rfl (hM.callO (l := [oBox b223 #[nS.v, nS.v, (.int .i64 0)] 106, oC (cSl 3 fDPart ([] : List DPart)) nS.v, oC (cSl 1 fI ([] : List Int)) nS.v]) fun X S oL hS hR hO => ct_spec_l02Keep _ X S b223 (⟨[], [], 0⟩ : DL02B) nS nS at_ hS  oL h232) ?_
    rintro _ w233 ⟨⟨s234, s235⟩, rfl, hM⟩
    replace hM : St ⟨w, X, S⟩ [oBox b223 #[s234.v, s235.v, (.int .i64 r231.drop)] 106, oC (cSl 3 fDPart r231.list) s234.v, oC (cSl 1 fI r231.put) s235.v] [rV s_l.v (cSl 1 fI l)] _ := hM
    refine wl_nil ?_
    refine sq_n ?_
    refine wc_seq ?_
    refine wc_region ?_
    refine wv rfl (r_move rfl) ?_
    refine wv rfl (r_move rfl) ?_
    obtain ⟨r238, h239, hx⟩ := bind_some' hx
    refine w_call rfl rfl (hM.callO (l := [oBox b223 #[s234.v, s235.v, (.int .i64 r231.drop)] 106, oC (cSl 3 fDPart r231.list) s234.v, oC (cSl 1 fI r231.put) s235.v]) fun X S oL hS hR hO => ct_spec_l02Put _ X S b223 r231 s234 s235 l s_l hS (hR _ (.head _)) oL h239) ?_
    rintro _ w240 ⟨⟨s241, s242⟩, rfl, hM⟩
    replace hM : St ⟨w, X, S⟩ [oBox b223 #[s241.v, s242.v, (.int .i64 r238.drop)] 106, oC (cSl 3 fDPart r238.list) s241.v, oC (cSl 1 fI r238.put) s242.v] [rV s_l.v (cSl 1 fI l)] _ := hM
    refine wl_nil ?_
    refine sq_n ?_
    refine wc_seq ?_
    refine wc_region ?_
    refine wv rfl (r_move rfl) ?_
    refine wv rfl (r_move rfl) ?_
    obtain ⟨r245, h246, hx⟩ := bind_some' hx
    refine w_call rfl rfl (hM.callO (l := [oBox b223 #[s241.v, s242.v, (.int .i64 r238.drop)] 106, oC (cSl 3 fDPart r238.list) s241.v, oC (cSl 1 fI r238.put) s242.v]) fun X S oL hS hR hO => ct_spec_l02Drop _ X S b223 r238 s241 s242 many hS  oL h246) ?_
    rintro _ w247 ⟨⟨s248, s249⟩, rfl, hM⟩
    replace hM : St ⟨w, X, S⟩ [oBox b223 #[s248.v, s249.v, (.int .i64 r245.drop)] 106, oC (cSl 3 fDPart r245.list) s248.v, oC (cSl 1 fI r245.put) s249.v] [rV s_l.v (cSl 1 fI l)] _ := hM
    refine wl_nil ?_
    refine sq_n ?_
    refine wc_seq ?_
    refine wc_region ?_
    refine wv rfl (r_move rfl) ?_
    refine wv rfl (r_move rfl) ?_
    refine wv rfl (r_move rfl) ?_
    obtain ⟨hg254, hx⟩ := xg_some hx
    refine wv rfl (r_sub rfl rfl hg254) ?_
    refine wv rfl (r_move rfl) ?_
    obtain ⟨hg257, hx⟩ := xg_some hx
    refine wv rfl (r_sub rfl rfl hg257) ?_
    obtain ⟨r258, h259, hx⟩ := bind_some' hx
    refine w_call rfl rfl (hM.callO (l := [oBox b223 #[s248.v, s249.v, (.int .i64 r245.drop)] 106, oC (cSl 3 fDPart r245.list) s248.v, oC (cSl 1 fI r245.put) s249.v]) fun X S oL hS hR hO => ct_spec_l02Keep _ X S b223 r245 s248 s249 ((n - at_) - many) hS  oL h259) ?_
    rintro _ w260 ⟨⟨s261, s262⟩, rfl, hM⟩
    replace hM : St ⟨w, X, S⟩ [oBox b223 #[s261.v, s262.v, (.int .i64 r258.drop)] 106, oC (cSl 3 fDPart r258.list) s261.v, oC (cSl 1 fI r258.put) s262.v] [rV s_l.v (cSl 1 fI l)] _ := hM
    refine wl_nil ?_
    refine sq_n ?_
    refine wc_seq ?_
    refine wc_region ?_
    refine wv rfl (r_move rfl) ?_
    obtain ⟨r264, h265, hx⟩ := bind_some' hx
    refine w_call rfl rfl (hM.callO (l := [oBox b223 #[s261.v, s262.v, (.int .i64 r258.drop)] 106, oC (cSl 3 fDPart r258.list) s261.v, oC (cSl 1 fI r258.put) s262.v]) fun X S oL hS hR hO => ct_spec_l02Done _ X S b223 r258 s261 s262 hS  oL h265) ?_
    rintro _ w266 ⟨⟨s267, s268, s269⟩, rfl, hM⟩
    replace hM : St ⟨w, X, S⟩ [oC (cSl 3 fDPart r264.1) s267.v, oBox b223 #[s268.v, s269.v, (.int .i64 r264.2.drop)] 106, oC (cSl 1 fI r264.2.put) s269.v] [rV s_l.v (cSl 1 fI l)] _ := hM
    refine wv rfl (r_assign rfl) ?_
    refine wl_nil ?_
    refine sq_n ?_
    refine wc_seq ?_
    refine wc_seq ?_
    refine wc_region ?_
    refine wv rfl (r_move rfl) ?_
    obtain ⟨r273, h274, hx⟩ := bind_some' hx
    refine w_call rfl rfl (hM.callV fun X S oL hS hR hO => ct_spec_OpOk _ X S r264.1 s267 hS (seeA hO (.head _)) oL h274) ?_
    rintro _ w275 ⟨rfl, hR276⟩
    have hM := hM.call hR276
    refine wv rfl (r_not rfl) ?_
    refine wl_nil ?_
    refine sq_n ?_
    refine wc_cond rfl (fun hc278 => ?_) (fun hc278 => ?_)
    · replace hx := xif_t hc278 hx
      refine wc_seq ?_
      refine wc_region ?_
      refine wv rfl (r_assign rfl) ?_
      refine wv rfl (r_assign rfl) ?_
      refine wl_nil ?_
      refine sq_n ?_
      refine wc_ret ?_
      refine sq_ret ?_
      obtain rfl := Option.some.inj hx
      have hM := hM.nil0 (T := DPart) 3 fDPart
      refine fin_ret [nS.v, (.bool false)] ⟨rfl, rfl, trivial⟩ ?_
      replace hM := hM.t1
      have hM := hM.fewer rsN
      exact ⟨nS, rfl, hM.gives⟩
    · replace hx := xif_f hc278 hx
      refine wc_skip ?_
      refine sq_n ?_
      refine wc_seq ?_
      refine wc_region ?_
      refine wv rfl (r_move rfl) ?_
      refine wv rfl (r_assign rfl) ?_
      refine wv rfl (r_assign rfl) ?_
      refine wl_nil ?_
      refine sq_n ?_
      refine wc_ret ?_
      obtain rfl := Option.some.inj hx
      refine fin_ret [s267.v, (.bool true)] ⟨rfl, rfl, trivial⟩ ?_
      replace hM := hM.t1
      have hM := hM.fewer rsN
      exact ⟨s267, rfl, hM.gives⟩

noncomputable def x_spec_PutAt (n : Int) (at_ : Int) (l : List Int) : Option (List DPart × Bool) :=
  Option.bind (x_spec_l06Op n at_ l 0) fun r6 => some (r6.1, r6.2)
theorem ct_spec_PutAt (w : World) (X S : Bs) (n : Int) (at_ : Int) (l : List Int) (s_l : Sv) (hS : ∀ b, S b → b < w.heap.size ∧ ¬ X b) (a_l_0 : (cSl 1 fI l).rd S w s_l.v) (oL : Sep [] X w) {r : List DPart × Bool} (hx : x_spec_PutAt n at_ l = some r) :
    Ret Try.prog 41 [(.int .i64 n), (.int .i64 at_), s_l.v] w (fun u w' => ∃ y : Sv, u = .tuple #[y.v, (.bool r.2)] ∧ Gives X S w [oC (cSl 3 fDPart r.1) y.v] [] w') := by
  unfold x_spec_PutAt at hx
  refine enter Try.func41 rfl Try.ntmps41 (by kernel_rfl) rfl ?_
  have hM := St.enter oL hS
  have hM := hM.addE (r := rV s_l.v (cSl 1 fI l)) a_l_0
  refine wc_seq ?_
  refine wc_region ?_
  refine wv rfl (r_assign rfl) ?_
  refine wv rfl (r_assign rfl) ?_
  refine wl_nil ?_
  refine sq_n ?_
  refine wc_seq ?_
  refine wc_region ?_
  refine wv rfl (r_move rfl) ?_
  refine wv rfl (r_move rfl) ?_
  refine wv rfl (r_move rfl) ?_
  obtain ⟨r20, h21, hx⟩ := bind_some' hx
  refine w_call rfl rfl (hM.callO (l := []) fun X S oL hS hR hO => ct_spec_l06Op _ X S n at_ l s_l (0 : Int) hS (hR _ (.head _)) oL h21) ?_
  rintro _ w22 ⟨s23, rfl, hM⟩
  replace hM : St ⟨w, X, S⟩ [oC (cSl 3 fDPart r20.1) s23.v] [rV s_l.v (cSl 1 fI l)] _ := hM
  refine wv rfl (r_extract rfl rfl) ?_
  refine wv rfl (r_extract rfl rfl) ?_
  refine wv rfl (r_assign rfl) ?_
  refine wv rfl (r_assign rfl) ?_
  refine wl_nil ?_
  refine sq_n ?_
  refine wc_ret ?_
  obtain rfl := Option.some.inj hx
  refine fin_ret [s23.v, (.bool r20.2)] ⟨rfl, rfl, trivial⟩ ?_
  replace hM := hM.t1
  have hM := hM.fewer rsN
  exact ⟨s23, rfl, hM.gives⟩

end Go.Proofs.Ytdfjkipdmeomdaa
