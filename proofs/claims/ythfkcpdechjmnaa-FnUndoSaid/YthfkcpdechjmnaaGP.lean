/- Walks of functions of this program (printed by a program of ours, by the rules of the layer). No condition. -/
import Derived.Test.YthfkcpdechjmnaaG7
import Derived.Test.YthfkcpdechjmnaaGU
import Derived.Test.YthfkcpdechjmnaaNr
namespace Go.Proofs.Ythfkcpdechjmnaa
open Go.RowKit

noncomputable def x_impl_shifted_b0 (l : List (List DPart)) (v65 : List DPart) (i66 : Int) (l67 : List (List DPart)) : Option (Lr (List DPart × Int × List (List DPart)) (Sum (List (List DPart)) Unit)) :=
  bif decide ((0 : Int) ≤ i66) then (xg (0 ≤ i66 ∧ i66 < (l.length : Int)) <| Option.bind (x_impl_Transform v65 (el l i66.toNat)) fun r124 => bif !r124.2.2 then (some (Lr.out (Sum.inr (())))) else (xg (0 ≤ i66 ∧ i66 < (l67.length : Int)) <| xg (inI (i66 - 1)) <| some (Lr.go (r124.1, i66 - 1, l67.set i66.toNat r124.2.1)))) else (some (Lr.out (Sum.inl l67)))
noncomputable def x_impl_shifted_f0 (l : List (List DPart)) (s156 : List DPart × Int × List (List DPart)) : Option (Lr (List DPart × Int × List (List DPart)) (Sum (List (List DPart)) Unit)) := x_impl_shifted_b0 l s156.1 s156.2.1 s156.2.2
noncomputable def x_impl_shifted (l : List (List DPart)) (o : List DPart) : Option (List (List DPart) × Bool) :=
  xg (0 ≤ (l.length : Int) ∧ (l.length : Int) ≤ 1099511627776) <| xg (inI ((l.length : Int) - 1)) <| Option.bind (iter (x_impl_shifted_f0 l) (o, (l.length : Int) - 1, List.replicate ((l.length : Int).toNat) ([] : List DPart))) fun (y157 : Sum (List (List DPart)) Unit) => Sum.elim (fun y158 => some (y158, true)) (fun _y159 => some ([], false)) y157
theorem ct_impl_shifted (w : World) (X S : Bs) (l : List (List DPart)) (s_l : Sv) (o : List DPart) (s_o : Sv) (hS : ∀ b, S b → b < w.heap.size ∧ ¬ X b) (a_l_0 : (cSl 1 fLDPart l).rd S w s_l.v) (a_o_0 : (cSl 3 fDPart o).rd S w s_o.v) (oL : Sep [] X w) {r : List (List DPart) × Bool} (hx : x_impl_shifted l o = some r) :
    Ret Try.prog 55 [s_l.v, s_o.v] w (fun u w' => ∃ y : Sv, u = .tuple #[y.v, (.bool r.2)] ∧ Gives X S w [oC (cSl 1 fLDPart r.1) y.v] [] w') := by
  unfold x_impl_shifted at hx
  refine enter Try.func55 rfl Try.ntmps55 (by kernel_rfl) rfl ?_
  have hM := St.enter oL hS
  have hM := hM.addE (r := rV s_l.v (cSl 1 fLDPart l)) a_l_0
  have hM := hM.addE (r := rV s_o.v (cSl 3 fDPart o)) a_o_0
  refine wc_seq ?_
  refine wc_region ?_
  refine wv rfl (r_assign rfl) ?_
  refine wv rfl (r_assign rfl) ?_
  refine wl_nil ?_
  refine sq_n ?_
  refine wc_seq ?_
  refine wc_region ?_
  refine wv rfl (r_move rfl) ?_
  refine wv rfl (r_lenC Try.underlying23 rfl (hM.seeR (.tail _ (.head _)))) ?_
  obtain ⟨hg170, hx⟩ := xg_some hx
  have hk171 : (l.length : Int) = ((l.length : Int).toNat : Int) := by omega
  refine w_ex rfl (x_make (f := fLDPart) (k := ((l.length : Int).toNat)) ([] : List DPart) Try.underlying23 sz29 (fun _ => rfl) (fun _ => zP (pN _ _) zN) (by rw [← hk171]; rfl) (by omega) rfl hM ?_); intro s169 w168 hR172 hM
  refine wv rfl (r_assign rfl) ?_
  refine wl_nil ?_
  refine sq_n ?_
  refine wc_seq ?_
  refine wc_region ?_
  refine wv rfl (r_move rfl) ?_
  refine wv rfl (r_assign rfl) ?_
  refine wl_nil ?_
  refine sq_n ?_
  refine wc_seq ?_
  refine wc_seq ?_
  refine wc_region ?_
  refine wv rfl (r_move rfl) ?_
  refine wv rfl (r_lenC Try.underlying23 rfl (hM.seeR (.tail _ (.head _)))) ?_
  obtain ⟨hg180, hx⟩ := xg_some hx
  refine wv rfl (r_sub rfl rfl hg180) ?_
  refine wv rfl (r_assign rfl) ?_
  refine wl_nil ?_
  refine sq_n ?_
  refine wc_block ?_
  obtain ⟨y182, hx, hx183⟩ := bind_some' hx
  obtain ⟨m190, hx⟩ := iter_run hx
  refine wc_loop (un fun (m188 : Nat) => un fun (v184 : List DPart) => un fun (i185 : Int) => un fun (l186 : List (List DPart)) => fun (s187 : Sv) => [(0, s_l.v), (6, s169.v), (7, s187.v), (8, (.int .i64 i185))]) (un fun (m188 : Nat) => un fun (v184 : List DPart) => un fun (i185 : Int) => un fun (l186 : List (List DPart)) => fun (s187 : Sv) w' => St ⟨w, X, S⟩ [oC (cSl 1 fLDPart l186) s169.v] [rV s187.v (cSl 3 fDPart v184), rV s_l.v (cSl 1 fLDPart l)] w' ∧ iterN _ m188 (v184, i185, l186) = some y182) (fun p => p.1) (m190, o, (l.length : Int) - 1, List.replicate ((l.length : Int).toNat) ([] : List DPart), s_o) ⟨rfl, rfl, rfl, rfl, trivial⟩ ⟨hM, hx⟩ ?_
  rintro ⟨m188, v184, i185, l186, s187⟩ w191 ⟨hM, hx⟩
  obtain ⟨m192, z193, rfl, hx, hx194⟩ := iterN_step hx
  unfold x_impl_shifted_f0 x_impl_shifted_b0 at hx
  try dsimp only at hx
  refine wc_seq ?_
  refine wc_seq ?_
  refine wc_region ?_
  refine wv rfl (r_move rfl) ?_
  refine wv rfl (r_geq rfl rfl) ?_
  refine wl_nil ?_
  refine sq_n ?_
  refine wc_cond rfl (fun hc197 => ?_) (fun hc197 => ?_)
  · replace hx := xif_t hc197 hx
    refine wc_skip ?_
    refine sq_n ?_
    refine wc_seq ?_
    refine wc_block ?_
    refine wc_seq ?_
    refine wc_region ?_
    refine wv rfl (r_move rfl) ?_
    refine wv rfl (r_move rfl) ?_
    refine wv rfl (r_move rfl) ?_
    obtain ⟨hg203, hx⟩ := xg_some hx
    have hi202 : i185.toNat < l.length := by omega
    refine wv rfl (r_ixC Try.underlying23 sz29 rfl rfl (hM.seeR (.tail _ (.head _))) hg203) ?_
    obtain ⟨s205, hM, hc206⟩ := hM.leaf (i := i185.toNat) (j := 0) (.tail _ (.head _)) (fun _ => rfl) hi202 rfl
    refine wv rfl (r_ld Try.underlying29 rfl rfl (hc206 _ (Rel.refl _))) ?_
    obtain ⟨r207, h208, hx⟩ := bind_some' hx
    refine w_call rfl rfl (hM.callO (l := []) fun X S oL hS hR hO => ct_impl_Transform _ X S v184 s187 (el l i185.toNat) s205 hS (hR _ (.tail _ (.head _))) (hR _ (.head _)) oL h208) ?_
    rintro _ w209 ⟨⟨s210, s211⟩, rfl, hM⟩
    replace hM : St ⟨w, X, S⟩ [oC (cSl 3 fDPart r207.1) s210.v, oC (cSl 3 fDPart r207.2.1) s211.v, oC (cSl 1 fLDPart l186) s169.v] [rV s205.v (cSl 3 fDPart (el l i185.toNat)), rV s187.v (cSl 3 fDPart v184), rV s_l.v (cSl 1 fLDPart l)] _ := hM
    refine wv rfl (r_move rfl) ?_
    refine wv rfl (r_extract rfl rfl) ?_
    refine wv rfl (r_extract rfl rfl) ?_
    refine wv rfl (r_extract rfl rfl) ?_
    refine wv rfl (r_assign rfl) ?_
    refine wv rfl (r_assign rfl) ?_
    refine wv rfl (r_assign rfl) ?_
    refine wl_nil ?_
    refine sq_n ?_
    refine wc_seq ?_
    refine wc_seq ?_
    refine wc_region ?_
    refine wv rfl (r_move rfl) ?_
    refine wv rfl (r_not rfl) ?_
    refine wl_nil ?_
    refine sq_n ?_
    refine wc_cond rfl (fun hc223 => ?_) (fun hc223 => ?_)
    · replace hx := xif_t hc223 hx
      refine wc_seq ?_
      refine wc_region ?_
      refine wv rfl (r_assign rfl) ?_
      refine wv rfl (r_assign rfl) ?_
      refine wl_nil ?_
      refine sq_n ?_
      refine wc_ret ?_
      refine sq_ret ?_
      refine bk_ret ?_
      refine sq_ret ?_
      refine lp1_ret ?_
      obtain rfl := Option.some.inj hx
      obtain rfl := Option.some.inj hx194
      replace hx := hx183
      try dsimp only [Sum.elim_inl, Sum.elim_inr] at hx
      refine bk_ret ?_
      refine sq_ret ?_
      obtain rfl := Option.some.inj hx
      have hM := hM.nil0 (T := List DPart) 1 fLDPart
      refine fin_ret [nS.v, (.bool false)] ⟨rfl, rfl, trivial⟩ ?_
      replace hM := hM.t1
      have hM := hM.fewer rsN
      exact ⟨nS, rfl, hM.gives⟩
    · replace hx := xif_f hc223 hx
      refine wc_skip ?_
      refine sq_n ?_
      refine wc_seq ?_
      refine wc_region ?_
      refine wv rfl (r_move rfl) ?_
      refine wv rfl (r_move rfl) ?_
      refine wv rfl (r_move rfl) ?_
      obtain ⟨hg232, hx⟩ := xg_some hx
      have hi231 : i185.toNat < l186.length := by omega
      refine wv rfl (r_ixC Try.underlying23 sz29 rfl rfl (hM.seeO (.tail _ (.tail _ (.head _)))) hg232) ?_
      replace hM := hM.p1.p2
      refine w_exu (x_stE (f := fLDPart) (k := 1) (L := l186) (i := i185.toNat) (j := 0) r207.2.1 [cSl 3 fDPart r207.2.1] sz29 (fun _ => rfl) rfl rfl hi231 rfl rfl rfl rfl rfl (fun _ => zO zN) hM ?_); intro w233 hM
      refine wl_nil ?_
      refine sq_n ?_
      refine wc_region ?_
      refine wv rfl (r_move rfl) ?_
      refine wv rfl (r_assign rfl) ?_
      refine wl_nil ?_
      refine bk_n ?_
      refine sq_n ?_
      refine wc_region ?_
      refine wv rfl (r_move rfl) ?_
      obtain ⟨hg239, hx⟩ := xg_some hx
      refine wv rfl (r_sub rfl rfl hg239) ?_
      refine wv rfl (r_assign rfl) ?_
      refine wl_nil ?_
      obtain rfl := Option.some.inj hx
      replace hM := hM.p1
      have hM := hM.selO
      have hM := hM.fewer (rsC (.head _) (rsC (.tail _ (.tail _ (.tail _ (.head _)))) rsN))
      replace hM : St ⟨w, X, S⟩ [oC (cSl 1 fLDPart (l186.set i185.toNat r207.2.1)) s169.v] [rV s210.v (cSl 3 fDPart r207.1), rV s_l.v (cSl 1 fLDPart l)] _ := hM
      exact lp_end (m192, r207.1, i185 - 1, l186.set i185.toNat r207.2.1, s210) (Nat.lt_succ_self _) ⟨rfl, rfl, rfl, rfl, trivial⟩ ⟨hM, hx194⟩
  · replace hx := xif_f hc197 hx
    refine wc_exit ?_
    refine sq_exit ?_
    refine lp1_exit ?_
    obtain rfl := Option.some.inj hx
    obtain rfl := Option.some.inj hx194
    replace hx := hx183
    try dsimp only [Sum.elim_inl, Sum.elim_inr] at hx
    refine bk_here ?_
    refine sq_n ?_
    refine wc_seq ?_
    refine wc_region ?_
    refine wv rfl (r_move rfl) ?_
    refine wv rfl (r_assign rfl) ?_
    refine wv rfl (r_assign rfl) ?_
    refine wl_nil ?_
    refine sq_n ?_
    refine wc_ret ?_
    obtain rfl := Option.some.inj hx
    refine fin_ret [s169.v, (.bool true)] ⟨rfl, rfl, trivial⟩ ?_
    replace hM := hM.t1
    have hM := hM.fewer rsN
    exact ⟨s169, rfl, hM.gives⟩

noncomputable def x_impl_PastOther (p : DStory) (o : List DPart) : Option (DStory × Bool) :=
  Option.bind (x_impl_PastOk p) fun r11 => Option.bind (bif !r11 then (some true) else (Option.bind (x_impl_OpOk o) fun r24 => some (!r24))) fun c16 => Option.bind (bif c16 then (some true) else (Option.bind (x_impl_OpFrom o) fun r39 => some (!decide (r39 = p.n)))) fun c29 => bif c29 then (some ((⟨0, [], []⟩ : DStory), false)) else (Option.bind (x_impl_shifted p.undo o) fun r54 => Option.bind (x_impl_shifted p.redo o) fun r67 => Option.bind (bif !r54.2 then (some true) else (some (!r67.2))) fun c80 => bif c80 then (some ((⟨0, [], []⟩ : DStory), false)) else (Option.bind (x_impl_OpTo o) fun r91 => some ((⟨r91, r54.1, r67.1⟩ : DStory), true)))
theorem ct_impl_PastOther (w : World) (X S : Bs) (p : DStory) (s_p_1 : Sv) (s_p_2 : Sv) (o : List DPart) (s_o : Sv) (hS : ∀ b, S b → b < w.heap.size ∧ ¬ X b) (a_p_1 : (cSl 1 fLDPart p.undo).rd S w s_p_1.v) (a_p_2 : (cSl 1 fLDPart p.redo).rd S w s_p_2.v) (a_o_0 : (cSl 3 fDPart o).rd S w s_o.v) (oL : Sep [] X w) {r : DStory × Bool} (hx : x_impl_PastOther p o = some r) :
    Ret Try.prog 19 [(.agg #[(.int .i64 p.n), s_p_1.v, s_p_2.v]), s_o.v] w (fun u w' => ∃ y : Sv × Sv, u = .tuple #[.agg #[(.int .i64 r.1.n), y.1.v, y.2.v], (.bool r.2)] ∧ Gives X S w [oC (cSl 1 fLDPart r.1.undo) y.1.v, oC (cSl 1 fLDPart r.1.redo) y.2.v] [] w') := by
  unfold x_impl_PastOther at hx
  refine enter Try.func19 rfl Try.ntmps19 (by kernel_rfl) rfl ?_
  have hM := St.enter oL hS
  have hM := hM.addE (r := rV s_p_1.v (cSl 1 fLDPart p.undo)) a_p_1
  have hM := hM.addE (r := rV s_p_2.v (cSl 1 fLDPart p.redo)) a_p_2
  have hM := hM.addE (r := rV s_o.v (cSl 3 fDPart o)) a_o_0
  refine wc_seq ?_
  refine wc_region ?_
  refine w_ex rfl (x_box rfl hM ?_); intro b102 w101 hR103 hM
  replace hM : St ⟨w, X, S⟩ [oBox b102 #[(.int .i64 p.n), s_p_1.v, s_p_2.v] 25] [rV s_o.v (cSl 3 fDPart o), rV s_p_2.v (cSl 1 fLDPart p.redo), rV s_p_1.v (cSl 1 fLDPart p.undo)] _ := hM
  refine w_ex rfl (x_alloc sz25 hM ?_); intro b106 w105 hR107 hM
  replace hM : St ⟨w, X, S⟩ [oBox b106 #[(.int .i64 0), (.slice none 0 0), (.slice none 0 0)] 25, oBox b102 #[(.int .i64 p.n), s_p_1.v, s_p_2.v] 25] [rV s_o.v (cSl 3 fDPart o), rV s_p_2.v (cSl 1 fLDPart p.redo), rV s_p_1.v (cSl 1 fLDPart p.undo)] _ := hM
  refine wv rfl (r_assign rfl) ?_
  refine wl_nil ?_
  refine sq_n ?_
  refine wc_seq ?_
  refine wc_seq ?_
  refine wc_draw [(0, 0), (1, 0), (2, 0), (3, 0), (4, 0), (5, 0), (6, 0), (7, 0), (8, 0), (9, 0), (10, 0), (11, 0), (12, 0), (13, 0), (14, 0)] Try_mixed (by kernel_rfl) rfl (by kernel_rfl) rfl ?_
  refine ov rfl (fun w' h' => r_ldBS Try.underlying25 sz25 rfl (us := [(.int .i64 p.n), s_p_1.v, s_p_2.v]) rfl (hM.call h') (.tail _ (.head _)) rfl) ?_
  obtain ⟨r111, h112, hx⟩ := bind_some' hx
  refine oc rfl rfl (fun w' h' => (hM.call h').callV fun X S oL hS hR hO => ct_impl_PastOk _ X S p s_p_1 s_p_2 hS (hR _ (.tail _ (.tail _ (.head _)))) (hR _ (.tail _ (.head _))) oL h112) ?_
  refine ov rfl (fun w' h' => r_not rfl) ?_
  refine ov rfl (fun w' h' => r_move rfl) ?_
  obtain ⟨c116, hx, hx123⟩ := bind_some' hx
  refine wo_mid 4 [(17, (.bool c116)), (1, s_o.v), (2, (.pointer (some ⟨b102, 0, none⟩))), (4, (.pointer (some ⟨b106, 0, none⟩)))] rfl ?_ ?_
  · rcases Bool.eq_false_or_eq_true (!r111) with hg117 | hg117
    · replace hx := xif_t hg117 hx
      refine ogs rfl (isB_no hg117) rfl ?_
      refine ogs rfl (isB_no hg117) rfl ?_
      refine ogs rfl (isB_no hg117) rfl ?_
      refine ov rfl (fun w' h' => p_t rfl hg117 rfl) ?_
      obtain rfl := Option.some.inj hx
      exact mid_onil ⟨rfl, rfl, rfl, rfl, trivial⟩
    · replace hx := xif_f hg117 hx
      refine ogv rfl hg117 rfl (fun w' h' => r_move rfl) ?_
      obtain ⟨r125, h126, hx⟩ := bind_some' hx
      refine ogc rfl hg117 rfl rfl (fun w' h' => (hM.call h').callV fun X S oL hS hR hO => ct_impl_OpOk _ X S o s_o hS (hR _ (.head _)) oL h126) ?_
      refine ogv rfl hg117 rfl (fun w' h' => r_not rfl) ?_
      refine ov rfl (fun w' h' => p_f rfl hg117 rfl) ?_
      obtain rfl := Option.some.inj hx
      exact mid_onil ⟨rfl, rfl, rfl, rfl, trivial⟩
  replace hx := hx123
  refine ov rfl (fun w' h' => r_move rfl) ?_
  obtain ⟨c130, hx, hx139⟩ := bind_some' hx
  refine wo_mid 6 [(24, (.bool c130)), (1, s_o.v), (2, (.pointer (some ⟨b102, 0, none⟩))), (4, (.pointer (some ⟨b106, 0, none⟩)))] rfl ?_ ?_
  · rcases Bool.eq_false_or_eq_true c116 with hg131 | hg131
    · replace hx := xif_t hg131 hx
      refine ogs rfl (isB_no hg131) rfl ?_
      refine ogs rfl (isB_no hg131) rfl ?_
      refine ogs rfl (isB_no hg131) rfl ?_
      refine ogs rfl (isB_no hg131) rfl ?_
      refine ogs rfl (isB_no hg131) rfl ?_
      refine ov rfl (fun w' h' => p_t rfl hg131 rfl) ?_
      obtain rfl := Option.some.inj hx
      exact mid_onil ⟨rfl, rfl, rfl, rfl, trivial⟩
    · replace hx := xif_f hg131 hx
      refine ogv rfl hg131 rfl (fun w' h' => r_move rfl) ?_
      obtain ⟨r141, h142, hx⟩ := bind_some' hx
      refine ogc rfl hg131 rfl rfl (fun w' h' => (hM.call h').callV fun X S oL hS hR hO => ct_impl_OpFrom _ X S o s_o hS (hR _ (.head _)) oL h142) ?_
      refine ogv rfl hg131 rfl (fun w' h' => r_fld Try.underlying25 rfl rfl sz3 rfl) ?_
      refine ogv rfl hg131 rfl (fun w' h' => r_ldB Try.underlying3 rfl rfl (hM.call h') (.tail _ (.head _)) rfl) ?_
      refine ogv rfl hg131 rfl (fun w' h' => r_neq rfl rfl) ?_
      refine ov rfl (fun w' h' => p_f rfl hg131 rfl) ?_
      obtain rfl := Option.some.inj hx
      exact mid_onil ⟨rfl, rfl, rfl, rfl, trivial⟩
  replace hx := hx139
  refine o_nil fun w147 hw148 => ?_
  have hM := hM.call hw148
  refine sq_n ?_
  refine wc_cond rfl (fun hc149 => ?_) (fun hc149 => ?_)
  · replace hx := xif_t hc149 hx
    refine wc_seq ?_
    refine wc_region ?_
    refine wv rfl (r_build (cells := #[(.int .i64 0), (.slice none 0 0), (.slice none 0 0)]) rfl (by kernel_rfl)) ?_
    refine w_exu (x_stB #[(.int .i64 0), (.slice none 0 0), (.slice none 0 0)] sz25 rfl rfl rfl rfl rfl rfl hM ?_); intro w151 hM
    refine wv rfl (r_assign rfl) ?_
    refine wl_nil ?_
    refine sq_n ?_
    refine wc_ret ?_
    refine sq_ret ?_
    obtain rfl := Option.some.inj hx
    have hM := hM.nil0 (T := List DPart) 1 fLDPart
    have hM := hM.nil0 (T := List DPart) 1 fLDPart
    refine fin_ret [(.agg #[(.int .i64 0), nS.v, nS.v]), (.bool false)] ⟨rv_box Try.underlying25 sz25 rfl rfl hM (.tail _ (.tail _ (.head _))), rfl, trivial⟩ ?_
    replace hM := hM.p1
    replace hM := hM.t2
    have hM := hM.fewer rsN
    exact ⟨(nS, nS), rfl, hM.gives⟩
  · replace hx := xif_f hc149 hx
    refine wc_skip ?_
    refine sq_n ?_
    refine wc_seq ?_
    refine wc_region ?_
    refine wv rfl (r_fld Try.underlying25 rfl rfl sz23 rfl) ?_
    refine wv rfl (r_ldB Try.underlying23 rfl rfl hM (.tail _ (.head _)) rfl) ?_
    refine wv rfl (r_move rfl) ?_
    obtain ⟨r159, h160, hx⟩ := bind_some' hx
    refine w_call rfl rfl (hM.callO (l := []) fun X S oL hS hR hO => ct_impl_shifted _ X S p.undo s_p_1 o s_o hS (hR _ (.tail _ (.tail _ (.head _)))) (hR _ (.head _)) oL h160) ?_
    rintro _ w161 ⟨s162, rfl, hM⟩
    replace hM : St ⟨w, X, S⟩ [oC (cSl 1 fLDPart r159.1) s162.v, oBox b106 #[(.int .i64 0), (.slice none 0 0), (.slice none 0 0)] 25, oBox b102 #[(.int .i64 p.n), s_p_1.v, s_p_2.v] 25] [rV s_o.v (cSl 3 fDPart o), rV s_p_2.v (cSl 1 fLDPart p.redo), rV s_p_1.v (cSl 1 fLDPart p.undo)] _ := hM
    refine wv rfl (r_move rfl) ?_
    refine wv rfl (r_extract rfl rfl) ?_
    refine wv rfl (r_extract rfl rfl) ?_
    refine wv rfl (r_assign rfl) ?_
    refine wv rfl (r_assign rfl) ?_
    refine wl_nil ?_
    refine sq_n ?_
    refine wc_seq ?_
    refine wc_region ?_
    refine wv rfl (r_fld Try.underlying25 rfl rfl sz23 rfl) ?_
    refine wv rfl (r_ldB Try.underlying23 rfl rfl hM (.tail _ (.tail _ (.head _))) rfl) ?_
    refine wv rfl (r_move rfl) ?_
    obtain ⟨r172, h173, hx⟩ := bind_some' hx
    refine w_call rfl rfl (hM.callO (l := []) fun X S oL hS hR hO => ct_impl_shifted _ X S p.redo s_p_2 o s_o hS (hR _ (.tail _ (.head _))) (hR _ (.head _)) oL h173) ?_
    rintro _ w174 ⟨s175, rfl, hM⟩
    replace hM : St ⟨w, X, S⟩ [oC (cSl 1 fLDPart r172.1) s175.v, oC (cSl 1 fLDPart r159.1) s162.v, oBox b106 #[(.int .i64 0), (.slice none 0 0), (.slice none 0 0)] 25, oBox b102 #[(.int .i64 p.n), s_p_1.v, s_p_2.v] 25] [rV s_o.v (cSl 3 fDPart o), rV s_p_2.v (cSl 1 fLDPart p.redo), rV s_p_1.v (cSl 1 fLDPart p.undo)] _ := hM
    refine wv rfl (r_move rfl) ?_
    refine wv rfl (r_extract rfl rfl) ?_
    refine wv rfl (r_extract rfl rfl) ?_
    refine wv rfl (r_assign rfl) ?_
    refine wv rfl (r_assign rfl) ?_
    refine wl_nil ?_
    refine sq_n ?_
    refine wc_seq ?_
    refine wc_seq ?_
    refine wc_region ?_
    refine wv rfl (r_move rfl) ?_
    refine wv rfl (r_not rfl) ?_
    refine wv rfl (r_move rfl) ?_
    obtain ⟨c185, hx, hx189⟩ := bind_some' hx
    refine wl_mid 3 (fun _ : Unit => [(45, (.bool c185)), (1, s_o.v), (4, (.pointer (some ⟨b106, 0, none⟩))), (6, s162.v), (8, s175.v)]) (fun _ w' => St ⟨w, X, S⟩ [oC (cSl 1 fLDPart r172.1) s175.v, oC (cSl 1 fLDPart r159.1) s162.v, oBox b106 #[(.int .i64 0), (.slice none 0 0), (.slice none 0 0)] 25, oBox b102 #[(.int .i64 p.n), s_p_1.v, s_p_2.v] 25] [rV s_o.v (cSl 3 fDPart o), rV s_p_2.v (cSl 1 fLDPart p.redo), rV s_p_1.v (cSl 1 fLDPart p.undo)] w') ?_ ?_
    · rcases Bool.eq_false_or_eq_true (!r159.2) with hg186 | hg186
      · replace hx := xif_t hg186 hx
        refine gs rfl (isB_no hg186) rfl ?_
        refine gs rfl (isB_no hg186) rfl ?_
        refine wv rfl (p_t rfl hg186 rfl) ?_
        obtain rfl := Option.some.inj hx
        exact mid_nil () ⟨rfl, rfl, rfl, rfl, rfl, trivial⟩ hM
      · replace hx := xif_f hg186 hx
        refine gv rfl hg186 rfl (r_move rfl) ?_
        refine gv rfl hg186 rfl (r_not rfl) ?_
        refine wv rfl (p_f rfl hg186 rfl) ?_
        obtain rfl := Option.some.inj hx
        exact mid_nil () ⟨rfl, rfl, rfl, rfl, rfl, trivial⟩ hM
    rintro _ w192 hM
    replace hx := hx189
    refine wl_nil ?_
    refine sq_n ?_
    refine wc_cond rfl (fun hc193 => ?_) (fun hc193 => ?_)
    · replace hx := xif_t hc193 hx
      refine wc_seq ?_
      refine wc_region ?_
      refine wv rfl (r_build (cells := #[(.int .i64 0), (.slice none 0 0), (.slice none 0 0)]) rfl (by kernel_rfl)) ?_
      replace hM := hM.p2
      refine w_exu (x_stB #[(.int .i64 0), (.slice none 0 0), (.slice none 0 0)] sz25 rfl rfl rfl rfl rfl rfl hM ?_); intro w195 hM
      refine wv rfl (r_assign rfl) ?_
      refine wl_nil ?_
      refine sq_n ?_
      refine wc_ret ?_
      refine sq_ret ?_
      obtain rfl := Option.some.inj hx
      have hM := hM.nil0 (T := List DPart) 1 fLDPart
      have hM := hM.nil0 (T := List DPart) 1 fLDPart
      refine fin_ret [(.agg #[(.int .i64 0), nS.v, nS.v]), (.bool false)] ⟨rv_box Try.underlying25 sz25 rfl rfl hM (.tail _ (.tail _ (.head _))), rfl, trivial⟩ ?_
      replace hM := hM.p1
      replace hM := hM.t2
      have hM := hM.fewer rsN
      exact ⟨(nS, nS), rfl, hM.gives⟩
    · replace hx := xif_f hc193 hx
      refine wc_skip ?_
      refine sq_n ?_
      refine wc_seq ?_
      refine wc_region ?_
      refine wv rfl (r_move rfl) ?_
      obtain ⟨r201, h202, hx⟩ := bind_some' hx
      refine w_call rfl rfl (hM.callV fun X S oL hS hR hO => ct_impl_OpTo _ X S o s_o hS (hR _ (.head _)) oL h202) ?_
      rintro _ w203 ⟨rfl, hR204⟩
      have hM := hM.call hR204
      refine wv rfl (r_move rfl) ?_
      refine wv rfl (r_move rfl) ?_
      refine wv rfl (r_build (cells := #[(.int .i64 r201), s162.v, s175.v]) rfl (by kernel_rfl)) ?_
      replace hM := hM.p2
      refine w_exu (x_stB #[(.int .i64 r201), s162.v, s175.v] sz25 rfl rfl rfl rfl rfl rfl hM ?_); intro w208 hM
      refine wv rfl (r_assign rfl) ?_
      refine wl_nil ?_
      refine sq_n ?_
      refine wc_ret ?_
      obtain rfl := Option.some.inj hx
      refine fin_ret [(.agg #[(.int .i64 r201), s162.v, s175.v]), (.bool true)] ⟨rv_box Try.underlying25 sz25 rfl rfl hM (.head _), rfl, trivial⟩ ?_
      replace hM := hM.p1.p2
      replace hM := hM.t2
      have hM := hM.fewer rsN
      exact ⟨(s162, s175), rfl, hM.gives⟩

noncomputable def x_spec_l24Past_b0 (l : List (List DPart)) (at63 : List DPart) (i64 : Int) (l65 : List (List DPart)) : Option (Lr (List DPart × Int × List (List DPart)) (Sum (List (List DPart)) Unit)) :=
  bif decide ((0 : Int) ≤ i64) then (xg (0 ≤ i64 ∧ i64 < (l.length : Int)) <| Option.bind (x_spec_Transform at63 (el l i64.toNat)) fun r122 => bif !r122.2.2 then (some (Lr.out (Sum.inr (())))) else (xg (0 ≤ i64 ∧ i64 < (l65.length : Int)) <| xg (inI (i64 - 1)) <| some (Lr.go (r122.1, i64 - 1, l65.set i64.toNat r122.2.1)))) else (some (Lr.out (Sum.inl l65)))
noncomputable def x_spec_l24Past_f0 (l : List (List DPart)) (s154 : List DPart × Int × List (List DPart)) : Option (Lr (List DPart × Int × List (List DPart)) (Sum (List (List DPart)) Unit)) := x_spec_l24Past_b0 l s154.1 s154.2.1 s154.2.2
noncomputable def x_spec_l24Past (l : List (List DPart)) (o : List DPart) : Option (List (List DPart) × Bool) :=
  Option.bind (x_spec_l24List l) fun r4 => xg (inI ((l.length : Int) - 1)) <| Option.bind (iter (x_spec_l24Past_f0 l) (o, (l.length : Int) - 1, r4)) fun (y155 : Sum (List (List DPart)) Unit) => Sum.elim (fun y156 => some (y156, true)) (fun _y157 => some ([], false)) y155
theorem ct_spec_l24Past (w : World) (X S : Bs) (l : List (List DPart)) (s_l : Sv) (o : List DPart) (s_o : Sv) (hS : ∀ b, S b → b < w.heap.size ∧ ¬ X b) (a_l_0 : (cSl 1 fLDPart l).rd S w s_l.v) (a_o_0 : (cSl 3 fDPart o).rd S w s_o.v) (oL : Sep [] X w) {r : List (List DPart) × Bool} (hx : x_spec_l24Past l o = some r) :
    Ret Try.prog 121 [s_l.v, s_o.v] w (fun u w' => ∃ y : Sv, u = .tuple #[y.v, (.bool r.2)] ∧ Gives X S w [oC (cSl 1 fLDPart r.1) y.v] [] w') := by
  unfold x_spec_l24Past at hx
  refine enter Try.func121 rfl Try.ntmps121 (by kernel_rfl) rfl ?_
  have hM := St.enter oL hS
  have hM := hM.addE (r := rV s_l.v (cSl 1 fLDPart l)) a_l_0
  have hM := hM.addE (r := rV s_o.v (cSl 3 fDPart o)) a_o_0
  refine wc_seq ?_
  refine wc_region ?_
  refine wv rfl (r_assign rfl) ?_
  refine wv rfl (r_assign rfl) ?_
  refine wl_nil ?_
  refine sq_n ?_
  refine wc_seq ?_
  refine wc_region ?_
  refine wv rfl (r_move rfl) ?_
  obtain ⟨r165, h166, hx⟩ := bind_some' hx
  refine w_call rfl rfl (hM.callO (l := []) fun X S oL hS hR hO => ct_spec_l24List _ X S l s_l hS (hR _ (.tail _ (.head _))) oL h166) ?_
  rintro _ w167 ⟨s168, rfl, hM⟩
  replace hM : St ⟨w, X, S⟩ [oC (cSl 1 fLDPart r165) s168.v] [rV s_o.v (cSl 3 fDPart o), rV s_l.v (cSl 1 fLDPart l)] _ := hM
  refine wv rfl (r_assign rfl) ?_
  refine wl_nil ?_
  refine sq_n ?_
  refine wc_seq ?_
  refine wc_region ?_
  refine wv rfl (r_move rfl) ?_
  refine wv rfl (r_assign rfl) ?_
  refine wl_nil ?_
  refine sq_n ?_
  refine wc_seq ?_
  refine wc_seq ?_
  refine wc_region ?_
  refine wv rfl (r_move rfl) ?_
  refine wv rfl (r_lenC Try.underlying23 rfl (hM.seeR (.tail _ (.head _)))) ?_
  obtain ⟨hg176, hx⟩ := xg_some hx
  refine wv rfl (r_sub rfl rfl hg176) ?_
  refine wv rfl (r_assign rfl) ?_
  refine wl_nil ?_
  refine sq_n ?_
  refine wc_block ?_
  obtain ⟨y178, hx, hx179⟩ := bind_some' hx
  obtain ⟨m186, hx⟩ := iter_run hx
  refine wc_loop (un fun (m184 : Nat) => un fun (at180 : List DPart) => un fun (i181 : Int) => un fun (l182 : List (List DPart)) => fun (s183 : Sv) => [(0, s_l.v), (6, s168.v), (7, s183.v), (8, (.int .i64 i181))]) (un fun (m184 : Nat) => un fun (at180 : List DPart) => un fun (i181 : Int) => un fun (l182 : List (List DPart)) => fun (s183 : Sv) w' => St ⟨w, X, S⟩ [oC (cSl 1 fLDPart l182) s168.v] [rV s183.v (cSl 3 fDPart at180), rV s_l.v (cSl 1 fLDPart l)] w' ∧ iterN _ m184 (at180, i181, l182) = some y178) (fun p => p.1) (m186, o, (l.length : Int) - 1, r165, s_o) ⟨rfl, rfl, rfl, rfl, trivial⟩ ⟨hM, hx⟩ ?_
  rintro ⟨m184, at180, i181, l182, s183⟩ w187 ⟨hM, hx⟩
  obtain ⟨m188, z189, rfl, hx, hx190⟩ := iterN_step hx
  unfold x_spec_l24Past_f0 x_spec_l24Past_b0 at hx
  try dsimp only at hx
  refine wc_seq ?_
  refine wc_seq ?_
  refine wc_region ?_
  refine wv rfl (r_move rfl) ?_
  refine wv rfl (r_geq rfl rfl) ?_
  refine wl_nil ?_
  refine sq_n ?_
  refine wc_cond rfl (fun hc193 => ?_) (fun hc193 => ?_)
  · replace hx := xif_t hc193 hx
    refine wc_skip ?_
    refine sq_n ?_
    refine wc_seq ?_
    refine wc_block ?_
    refine wc_seq ?_
    refine wc_region ?_
    refine wv rfl (r_move rfl) ?_
    refine wv rfl (r_move rfl) ?_
    refine wv rfl (r_move rfl) ?_
    obtain ⟨hg199, hx⟩ := xg_some hx
    have hi198 : i181.toNat < l.length := by omega
    refine wv rfl (r_ixC Try.underlying23 sz29 rfl rfl (hM.seeR (.tail _ (.head _))) hg199) ?_
    obtain ⟨s201, hM, hc202⟩ := hM.leaf (i := i181.toNat) (j := 0) (.tail _ (.head _)) (fun _ => rfl) hi198 rfl
    refine wv rfl (r_ld Try.underlying29 rfl rfl (hc202 _ (Rel.refl _))) ?_
    obtain ⟨r203, h204, hx⟩ := bind_some' hx
    refine w_call rfl rfl (hM.callO (l := []) fun X S oL hS hR hO => ct_spec_Transform _ X S at180 s183 (el l i181.toNat) s201 hS (hR _ (.tail _ (.head _))) (hR _ (.head _)) oL h204) ?_
    rintro _ w205 ⟨⟨s206, s207⟩, rfl, hM⟩
    replace hM : St ⟨w, X, S⟩ [oC (cSl 3 fDPart r203.1) s206.v, oC (cSl 3 fDPart r203.2.1) s207.v, oC (cSl 1 fLDPart l182) s168.v] [rV s201.v (cSl 3 fDPart (el l i181.toNat)), rV s183.v (cSl 3 fDPart at180), rV s_l.v (cSl 1 fLDPart l)] _ := hM
    refine wv rfl (r_move rfl) ?_
    refine wv rfl (r_extract rfl rfl) ?_
    refine wv rfl (r_extract rfl rfl) ?_
    refine wv rfl (r_extract rfl rfl) ?_
    refine wv rfl (r_assign rfl) ?_
    refine wv rfl (r_assign rfl) ?_
    refine wv rfl (r_assign rfl) ?_
    refine wl_nil ?_
    refine sq_n ?_
    refine wc_seq ?_
    refine wc_seq ?_
    refine wc_region ?_
    refine wv rfl (r_move rfl) ?_
    refine wv rfl (r_not rfl) ?_
    refine wl_nil ?_
    refine sq_n ?_
    refine wc_cond rfl (fun hc219 => ?_) (fun hc219 => ?_)
    · replace hx := xif_t hc219 hx
      refine wc_seq ?_
      refine wc_region ?_
      refine wv rfl (r_assign rfl) ?_
      refine wv rfl (r_assign rfl) ?_
      refine wl_nil ?_
      refine sq_n ?_
      refine wc_ret ?_
      refine sq_ret ?_
      refine bk_ret ?_
      refine sq_ret ?_
      refine lp1_ret ?_
      obtain rfl := Option.some.inj hx
      obtain rfl := Option.some.inj hx190
      replace hx := hx179
      try dsimp only [Sum.elim_inl, Sum.elim_inr] at hx
      refine bk_ret ?_
      refine sq_ret ?_
      obtain rfl := Option.some.inj hx
      have hM := hM.nil0 (T := List DPart) 1 fLDPart
      refine fin_ret [nS.v, (.bool false)] ⟨rfl, rfl, trivial⟩ ?_
      replace hM := hM.t1
      have hM := hM.fewer rsN
      exact ⟨nS, rfl, hM.gives⟩
    · replace hx := xif_f hc219 hx
      refine wc_skip ?_
      refine sq_n ?_
      refine wc_seq ?_
      refine wc_region ?_
      refine wv rfl (r_move rfl) ?_
      refine wv rfl (r_move rfl) ?_
      refine wv rfl (r_move rfl) ?_
      obtain ⟨hg228, hx⟩ := xg_some hx
      have hi227 : i181.toNat < l182.length := by omega
      refine wv rfl (r_ixC Try.underlying23 sz29 rfl rfl (hM.seeO (.tail _ (.tail _ (.head _)))) hg228) ?_
      replace hM := hM.p1.p2
      refine w_exu (x_stE (f := fLDPart) (k := 1) (L := l182) (i := i181.toNat) (j := 0) r203.2.1 [cSl 3 fDPart r203.2.1] sz29 (fun _ => rfl) rfl rfl hi227 rfl rfl rfl rfl rfl (fun _ => zO zN) hM ?_); intro w229 hM
      refine wl_nil ?_
      refine sq_n ?_
      refine wc_region ?_
      refine wv rfl (r_move rfl) ?_
      refine wv rfl (r_assign rfl) ?_
      refine wl_nil ?_
      refine bk_n ?_
      refine sq_n ?_
      refine wc_region ?_
      refine wv rfl (r_move rfl) ?_
      obtain ⟨hg235, hx⟩ := xg_some hx
      refine wv rfl (r_sub rfl rfl hg235) ?_
      refine wv rfl (r_assign rfl) ?_
      refine wl_nil ?_
      obtain rfl := Option.some.inj hx
      replace hM := hM.p1
      have hM := hM.selO
      have hM := hM.fewer (rsC (.head _) (rsC (.tail _ (.tail _ (.tail _ (.head _)))) rsN))
      replace hM : St ⟨w, X, S⟩ [oC (cSl 1 fLDPart (l182.set i181.toNat r203.2.1)) s168.v] [rV s206.v (cSl 3 fDPart r203.1), rV s_l.v (cSl 1 fLDPart l)] _ := hM
      exact lp_end (m188, r203.1, i181 - 1, l182.set i181.toNat r203.2.1, s206) (Nat.lt_succ_self _) ⟨rfl, rfl, rfl, rfl, trivial⟩ ⟨hM, hx190⟩
  · replace hx := xif_f hc193 hx
    refine wc_exit ?_
    refine sq_exit ?_
    refine lp1_exit ?_
    obtain rfl := Option.some.inj hx
    obtain rfl := Option.some.inj hx190
    replace hx := hx179
    try dsimp only [Sum.elim_inl, Sum.elim_inr] at hx
    refine bk_here ?_
    refine sq_n ?_
    refine wc_seq ?_
    refine wc_region ?_
    refine wv rfl (r_move rfl) ?_
    refine wv rfl (r_assign rfl) ?_
    refine wv rfl (r_assign rfl) ?_
    refine wl_nil ?_
    refine sq_n ?_
    refine wc_ret ?_
    obtain rfl := Option.some.inj hx
    refine fin_ret [s168.v, (.bool true)] ⟨rfl, rfl, trivial⟩ ?_
    replace hM := hM.t1
    have hM := hM.fewer rsN
    exact ⟨s168, rfl, hM.gives⟩

noncomputable def x_spec_PastOther (p : DStory) (o : List DPart) : Option (DStory × Bool) :=
  Option.bind (x_spec_PastOk p) fun r11 => Option.bind (bif !r11 then (some true) else (Option.bind (x_spec_OpOk o) fun r24 => some (!r24))) fun c16 => Option.bind (bif c16 then (some true) else (Option.bind (x_spec_OpFrom o) fun r39 => some (!decide (r39 = p.n)))) fun c29 => bif c29 then (some ((⟨0, [], []⟩ : DStory), false)) else (Option.bind (x_spec_l24Past p.undo o) fun r54 => Option.bind (x_spec_l24Past p.redo o) fun r67 => Option.bind (x_spec_OpTo o) fun r78 => Option.bind (bif !r54.2 then (some true) else (some (!r67.2))) fun c94 => Option.bind (bif c94 then (some true) else (Option.bind (x_spec_PastOk (⟨r78, r54.1, r67.1⟩ : DStory)) fun r110 => some (!r110))) fun c101 => bif c101 then (some ((⟨0, [], []⟩ : DStory), false)) else (some ((⟨r78, r54.1, r67.1⟩ : DStory), true)))
theorem ct_spec_PastOther (w : World) (X S : Bs) (p : DStory) (s_p_1 : Sv) (s_p_2 : Sv) (o : List DPart) (s_o : Sv) (hS : ∀ b, S b → b < w.heap.size ∧ ¬ X b) (a_p_1 : (cSl 1 fLDPart p.undo).rd S w s_p_1.v) (a_p_2 : (cSl 1 fLDPart p.redo).rd S w s_p_2.v) (a_o_0 : (cSl 3 fDPart o).rd S w s_o.v) (oL : Sep [] X w) {r : DStory × Bool} (hx : x_spec_PastOther p o = some r) :
    Ret Try.prog 83 [(.agg #[(.int .i64 p.n), s_p_1.v, s_p_2.v]), s_o.v] w (fun u w' => ∃ y : Sv × Sv, u = .tuple #[.agg #[(.int .i64 r.1.n), y.1.v, y.2.v], (.bool r.2)] ∧ Gives X S w [oC (cSl 1 fLDPart r.1.undo) y.1.v, oC (cSl 1 fLDPart r.1.redo) y.2.v] [] w') := by
  unfold x_spec_PastOther at hx
  refine enter Try.func83 rfl Try.ntmps83 (by kernel_rfl) rfl ?_
  have hM := St.enter oL hS
  have hM := hM.addE (r := rV s_p_1.v (cSl 1 fLDPart p.undo)) a_p_1
  have hM := hM.addE (r := rV s_p_2.v (cSl 1 fLDPart p.redo)) a_p_2
  have hM := hM.addE (r := rV s_o.v (cSl 3 fDPart o)) a_o_0
  refine wc_seq ?_
  refine wc_region ?_
  refine w_ex rfl (x_box rfl hM ?_); intro b124 w123 hR125 hM
  replace hM : St ⟨w, X, S⟩ [oBox b124 #[(.int .i64 p.n), s_p_1.v, s_p_2.v] 25] [rV s_o.v (cSl 3 fDPart o), rV s_p_2.v (cSl 1 fLDPart p.redo), rV s_p_1.v (cSl 1 fLDPart p.undo)] _ := hM
  refine w_ex rfl (x_alloc sz25 hM ?_); intro b128 w127 hR129 hM
  replace hM : St ⟨w, X, S⟩ [oBox b128 #[(.int .i64 0), (.slice none 0 0), (.slice none 0 0)] 25, oBox b124 #[(.int .i64 p.n), s_p_1.v, s_p_2.v] 25] [rV s_o.v (cSl 3 fDPart o), rV s_p_2.v (cSl 1 fLDPart p.redo), rV s_p_1.v (cSl 1 fLDPart p.undo)] _ := hM
  refine wv rfl (r_assign rfl) ?_
  refine wl_nil ?_
  refine sq_n ?_
  refine wc_seq ?_
  refine wc_seq ?_
  refine wc_draw [(0, 0), (1, 0), (2, 0), (3, 0), (4, 0), (5, 0), (6, 0), (7, 0), (8, 0), (9, 0), (10, 0), (11, 0), (12, 0), (13, 0), (14, 0)] Try_mixed (by kernel_rfl) rfl (by kernel_rfl) rfl ?_
  refine ov rfl (fun w' h' => r_ldBS Try.underlying25 sz25 rfl (us := [(.int .i64 p.n), s_p_1.v, s_p_2.v]) rfl (hM.call h') (.tail _ (.head _)) rfl) ?_
  obtain ⟨r133, h134, hx⟩ := bind_some' hx
  refine oc rfl rfl (fun w' h' => (hM.call h').callV fun X S oL hS hR hO => ct_spec_PastOk _ X S p s_p_1 s_p_2 hS (hR _ (.tail _ (.tail _ (.head _)))) (hR _ (.tail _ (.head _))) oL h134) ?_
  refine ov rfl (fun w' h' => r_not rfl) ?_
  refine ov rfl (fun w' h' => r_move rfl) ?_
  obtain ⟨c138, hx, hx145⟩ := bind_some' hx
  refine wo_mid 4 [(18, (.bool c138)), (1, s_o.v), (2, (.pointer (some ⟨b124, 0, none⟩))), (4, (.pointer (some ⟨b128, 0, none⟩)))] rfl ?_ ?_
  · rcases Bool.eq_false_or_eq_true (!r133) with hg139 | hg139
    · replace hx := xif_t hg139 hx
      refine ogs rfl (isB_no hg139) rfl ?_
      refine ogs rfl (isB_no hg139) rfl ?_
      refine ogs rfl (isB_no hg139) rfl ?_
      refine ov rfl (fun w' h' => p_t rfl hg139 rfl) ?_
      obtain rfl := Option.some.inj hx
      exact mid_onil ⟨rfl, rfl, rfl, rfl, trivial⟩
    · replace hx := xif_f hg139 hx
      refine ogv rfl hg139 rfl (fun w' h' => r_move rfl) ?_
      obtain ⟨r147, h148, hx⟩ := bind_some' hx
      refine ogc rfl hg139 rfl rfl (fun w' h' => (hM.call h').callV fun X S oL hS hR hO => ct_spec_OpOk _ X S o s_o hS (hR _ (.head _)) oL h148) ?_
      refine ogv rfl hg139 rfl (fun w' h' => r_not rfl) ?_
      refine ov rfl (fun w' h' => p_f rfl hg139 rfl) ?_
      obtain rfl := Option.some.inj hx
      exact mid_onil ⟨rfl, rfl, rfl, rfl, trivial⟩
  replace hx := hx145
  refine ov rfl (fun w' h' => r_move rfl) ?_
  obtain ⟨c152, hx, hx161⟩ := bind_some' hx
  refine wo_mid 6 [(25, (.bool c152)), (1, s_o.v), (2, (.pointer (some ⟨b124, 0, none⟩))), (4, (.pointer (some ⟨b128, 0, none⟩)))] rfl ?_ ?_
  · rcases Bool.eq_false_or_eq_true c138 with hg153 | hg153
    · replace hx := xif_t hg153 hx
      refine ogs rfl (isB_no hg153) rfl ?_
      refine ogs rfl (isB_no hg153) rfl ?_
      refine ogs rfl (isB_no hg153) rfl ?_
      refine ogs rfl (isB_no hg153) rfl ?_
      refine ogs rfl (isB_no hg153) rfl ?_
      refine ov rfl (fun w' h' => p_t rfl hg153 rfl) ?_
      obtain rfl := Option.some.inj hx
      exact mid_onil ⟨rfl, rfl, rfl, rfl, trivial⟩
    · replace hx := xif_f hg153 hx
      refine ogv rfl hg153 rfl (fun w' h' => r_move rfl) ?_
      obtain ⟨r163, h164, hx⟩ := bind_some' hx
      refine ogc rfl hg153 rfl rfl (fun w' h' => (hM.call h').callV fun X S oL hS hR hO => ct_spec_OpFrom _ X S o s_o hS (hR _ (.head _)) oL h164) ?_
      refine ogv rfl hg153 rfl (fun w' h' => r_fld Try.underlying25 rfl rfl sz3 rfl) ?_
      refine ogv rfl hg153 rfl (fun w' h' => r_ldB Try.underlying3 rfl rfl (hM.call h') (.tail _ (.head _)) rfl) ?_
      refine ogv rfl hg153 rfl (fun w' h' => r_neq rfl rfl) ?_
      refine ov rfl (fun w' h' => p_f rfl hg153 rfl) ?_
      obtain rfl := Option.some.inj hx
      exact mid_onil ⟨rfl, rfl, rfl, rfl, trivial⟩
  replace hx := hx161
  refine o_nil fun w169 hw170 => ?_
  have hM := hM.call hw170
  refine sq_n ?_
  refine wc_cond rfl (fun hc171 => ?_) (fun hc171 => ?_)
  · replace hx := xif_t hc171 hx
    refine wc_seq ?_
    refine wc_region ?_
    refine wv rfl (r_build (cells := #[(.int .i64 0), (.slice none 0 0), (.slice none 0 0)]) rfl (by kernel_rfl)) ?_
    refine w_exu (x_stB #[(.int .i64 0), (.slice none 0 0), (.slice none 0 0)] sz25 rfl rfl rfl rfl rfl rfl hM ?_); intro w173 hM
    refine wv rfl (r_assign rfl) ?_
    refine wl_nil ?_
    refine sq_n ?_
    refine wc_ret ?_
    refine sq_ret ?_
    obtain rfl := Option.some.inj hx
    have hM := hM.nil0 (T := List DPart) 1 fLDPart
    have hM := hM.nil0 (T := List DPart) 1 fLDPart
    refine fin_ret [(.agg #[(.int .i64 0), nS.v, nS.v]), (.bool false)] ⟨rv_box Try.underlying25 sz25 rfl rfl hM (.tail _ (.tail _ (.head _))), rfl, trivial⟩ ?_
    replace hM := hM.p1
    replace hM := hM.t2
    have hM := hM.fewer rsN
    exact ⟨(nS, nS), rfl, hM.gives⟩
  · replace hx := xif_f hc171 hx
    refine wc_skip ?_
    refine sq_n ?_
    refine wc_seq ?_
    refine wc_region ?_
    refine wv rfl (r_fld Try.underlying25 rfl rfl sz23 rfl) ?_
    refine wv rfl (r_ldB Try.underlying23 rfl rfl hM (.tail _ (.head _)) rfl) ?_
    refine wv rfl (r_move rfl) ?_
    obtain ⟨r181, h182, hx⟩ := bind_some' hx
    refine w_call rfl rfl (hM.callO (l := []) fun X S oL hS hR hO => ct_spec_l24Past _ X S p.undo s_p_1 o s_o hS (hR _ (.tail _ (.tail _ (.head _)))) (hR _ (.head _)) oL h182) ?_
    rintro _ w183 ⟨s184, rfl, hM⟩
    replace hM : St ⟨w, X, S⟩ [oC (cSl 1 fLDPart r181.1) s184.v, oBox b128 #[(.int .i64 0), (.slice none 0 0), (.slice none 0 0)] 25, oBox b124 #[(.int .i64 p.n), s_p_1.v, s_p_2.v] 25] [rV s_o.v (cSl 3 fDPart o), rV s_p_2.v (cSl 1 fLDPart p.redo), rV s_p_1.v (cSl 1 fLDPart p.undo)] _ := hM
    refine wv rfl (r_move rfl) ?_
    refine wv rfl (r_extract rfl rfl) ?_
    refine wv rfl (r_extract rfl rfl) ?_
    refine wv rfl (r_assign rfl) ?_
    refine wv rfl (r_assign rfl) ?_
    refine wl_nil ?_
    refine sq_n ?_
    refine wc_seq ?_
    refine wc_region ?_
    refine wv rfl (r_fld Try.underlying25 rfl rfl sz23 rfl) ?_
    refine wv rfl (r_ldB Try.underlying23 rfl rfl hM (.tail _ (.tail _ (.head _))) rfl) ?_
    refine wv rfl (r_move rfl) ?_
    obtain ⟨r194, h195, hx⟩ := bind_some' hx
    refine w_call rfl rfl (hM.callO (l := []) fun X S oL hS hR hO => ct_spec_l24Past _ X S p.redo s_p_2 o s_o hS (hR _ (.tail _ (.head _))) (hR _ (.head _)) oL h195) ?_
    rintro _ w196 ⟨s197, rfl, hM⟩
    replace hM : St ⟨w, X, S⟩ [oC (cSl 1 fLDPart r194.1) s197.v, oC (cSl 1 fLDPart r181.1) s184.v, oBox b128 #[(.int .i64 0), (.slice none 0 0), (.slice none 0 0)] 25, oBox b124 #[(.int .i64 p.n), s_p_1.v, s_p_2.v] 25] [rV s_o.v (cSl 3 fDPart o), rV s_p_2.v (cSl 1 fLDPart p.redo), rV s_p_1.v (cSl 1 fLDPart p.undo)] _ := hM
    refine wv rfl (r_move rfl) ?_
    refine wv rfl (r_extract rfl rfl) ?_
    refine wv rfl (r_extract rfl rfl) ?_
    refine wv rfl (r_assign rfl) ?_
    refine wv rfl (r_assign rfl) ?_
    refine wl_nil ?_
    refine sq_n ?_
    refine wc_seq ?_
    refine wc_region ?_
    refine wv rfl (r_move rfl) ?_
    obtain ⟨r205, h206, hx⟩ := bind_some' hx
    refine w_call rfl rfl (hM.callV fun X S oL hS hR hO => ct_spec_OpTo _ X S o s_o hS (hR _ (.head _)) oL h206) ?_
    rintro _ w207 ⟨rfl, hR208⟩
    have hM := hM.call hR208
    refine wv rfl (r_move rfl) ?_
    refine wv rfl (r_move rfl) ?_
    refine wv rfl (r_build (cells := #[(.int .i64 r205), s184.v, s197.v]) rfl (by kernel_rfl)) ?_
    refine w_ex rfl (x_alloc sz25 hM ?_); intro b213 w212 hR214 hM
    replace hM : St ⟨w, X, S⟩ [oBox b213 #[(.int .i64 0), (.slice none 0 0), (.slice none 0 0)] 25, oC (cSl 1 fLDPart r194.1) s197.v, oC (cSl 1 fLDPart r181.1) s184.v, oBox b128 #[(.int .i64 0), (.slice none 0 0), (.slice none 0 0)] 25, oBox b124 #[(.int .i64 p.n), s_p_1.v, s_p_2.v] 25] [rV s_o.v (cSl 3 fDPart o), rV s_p_2.v (cSl 1 fLDPart p.redo), rV s_p_1.v (cSl 1 fLDPart p.undo)] _ := hM
    refine w_exu (x_stB #[(.int .i64 r205), s184.v, s197.v] sz25 rfl rfl rfl rfl rfl rfl hM ?_); intro w216 hM
    refine wl_nil ?_
    refine sq_n ?_
    refine wc_seq ?_
    refine wc_seq ?_
    refine wc_region ?_
    refine wv rfl (r_move rfl) ?_
    refine wv rfl (r_not rfl) ?_
    refine wv rfl (r_move rfl) ?_
    obtain ⟨c221, hx, hx225⟩ := bind_some' hx
    refine wl_mid 3 (fun _ : Unit => [(51, (.bool c221)), (4, (.pointer (some ⟨b128, 0, none⟩))), (10, (.pointer (some ⟨b213, 0, none⟩)))]) (fun _ w' => St ⟨w, X, S⟩ [oBox b213 #[(.int .i64 r205), s184.v, s197.v] 25, oC (cSl 1 fLDPart r194.1) s197.v, oC (cSl 1 fLDPart r181.1) s184.v, oBox b128 #[(.int .i64 0), (.slice none 0 0), (.slice none 0 0)] 25, oBox b124 #[(.int .i64 p.n), s_p_1.v, s_p_2.v] 25] [rV s_o.v (cSl 3 fDPart o), rV s_p_2.v (cSl 1 fLDPart p.redo), rV s_p_1.v (cSl 1 fLDPart p.undo)] w') ?_ ?_
    · rcases Bool.eq_false_or_eq_true (!r181.2) with hg222 | hg222
      · replace hx := xif_t hg222 hx
        refine gs rfl (isB_no hg222) rfl ?_
        refine gs rfl (isB_no hg222) rfl ?_
        refine wv rfl (p_t rfl hg222 rfl) ?_
        obtain rfl := Option.some.inj hx
        exact mid_nil () ⟨rfl, rfl, rfl, trivial⟩ hM
      · replace hx := xif_f hg222 hx
        refine gv rfl hg222 rfl (r_move rfl) ?_
        refine gv rfl hg222 rfl (r_not rfl) ?_
        refine wv rfl (p_f rfl hg222 rfl) ?_
        obtain rfl := Option.some.inj hx
        exact mid_nil () ⟨rfl, rfl, rfl, trivial⟩ hM
    rintro _ w228 hM
    replace hx := hx225
    refine wv rfl (r_move rfl) ?_
    obtain ⟨c230, hx, hx238⟩ := bind_some' hx
    refine wl_mid 4 (fun _ : Unit => [(56, (.bool c230)), (4, (.pointer (some ⟨b128, 0, none⟩))), (10, (.pointer (some ⟨b213, 0, none⟩)))]) (fun _ w' => St ⟨w, X, S⟩ [oBox b213 #[(.int .i64 r205), s184.v, s197.v] 25, oC (cSl 1 fLDPart r194.1) s197.v, oC (cSl 1 fLDPart r181.1) s184.v, oBox b128 #[(.int .i64 0), (.slice none 0 0), (.slice none 0 0)] 25, oBox b124 #[(.int .i64 p.n), s_p_1.v, s_p_2.v] 25] [rV s_o.v (cSl 3 fDPart o), rV s_p_2.v (cSl 1 fLDPart p.redo), rV s_p_1.v (cSl 1 fLDPart p.undo)] w') ?_ ?_
    · rcases Bool.eq_false_or_eq_true c221 with hg231 | hg231
      · replace hx := xif_t hg231 hx
        refine gs rfl (isB_no hg231) rfl ?_
        refine gs rfl (isB_no hg231) rfl ?_
        refine gs rfl (isB_no hg231) rfl ?_
        refine wv rfl (p_t rfl hg231 rfl) ?_
        obtain rfl := Option.some.inj hx
        exact mid_nil () ⟨rfl, rfl, rfl, trivial⟩ hM
      · replace hx := xif_f hg231 hx
        refine gv rfl hg231 rfl (r_ldBS Try.underlying25 sz25 rfl (us := [(.int .i64 r205), s184.v, s197.v]) rfl hM (.head _) rfl) ?_
        obtain ⟨r240, h241, hx⟩ := bind_some' hx
        refine gc rfl hg231 rfl rfl (hM.callV fun X S oL hS hR hO => ct_spec_PastOk _ X S (⟨r205, r181.1, r194.1⟩ : DStory) s184 s197 hS (seeA hO (.tail _ (.tail _ (.head _)))) (seeA hO (.tail _ (.head _))) oL h241) ?_
        rintro _ w242 ⟨rfl, hR243⟩
        have hM := hM.call hR243
        refine gv rfl hg231 rfl (r_not rfl) ?_
        refine wv rfl (p_f rfl hg231 rfl) ?_
        obtain rfl := Option.some.inj hx
        exact mid_nil () ⟨rfl, rfl, rfl, trivial⟩ hM
    rintro _ w245 hM
    replace hx := hx238
    refine wl_nil ?_
    refine sq_n ?_
    refine wc_cond rfl (fun hc246 => ?_) (fun hc246 => ?_)
    · replace hx := xif_t hc246 hx
      refine wc_seq ?_
      refine wc_region ?_
      refine wv rfl (r_build (cells := #[(.int .i64 0), (.slice none 0 0), (.slice none 0 0)]) rfl (by kernel_rfl)) ?_
      replace hM := hM.p3
      refine w_exu (x_stB #[(.int .i64 0), (.slice none 0 0), (.slice none 0 0)] sz25 rfl rfl rfl rfl rfl rfl hM ?_); intro w248 hM
      refine wv rfl (r_assign rfl) ?_
      refine wl_nil ?_
      refine sq_n ?_
      refine wc_ret ?_
      refine sq_ret ?_
      obtain rfl := Option.some.inj hx
      have hM := hM.nil0 (T := List DPart) 1 fLDPart
      have hM := hM.nil0 (T := List DPart) 1 fLDPart
      refine fin_ret [(.agg #[(.int .i64 0), nS.v, nS.v]), (.bool false)] ⟨rv_box Try.underlying25 sz25 rfl rfl hM (.tail _ (.tail _ (.head _))), rfl, trivial⟩ ?_
      replace hM := hM.p1
      replace hM := hM.t2
      have hM := hM.fewer rsN
      exact ⟨(nS, nS), rfl, hM.gives⟩
    · replace hx := xif_f hc246 hx
      refine wc_skip ?_
      refine sq_n ?_
      refine wc_seq ?_
      refine wc_region ?_
      refine wv rfl (r_ldBS Try.underlying25 sz25 rfl (us := [(.int .i64 r205), s184.v, s197.v]) rfl hM (.head _) rfl) ?_
      replace hM := hM.p3
      refine w_exu (x_stB #[(.int .i64 r205), s184.v, s197.v] sz25 rfl rfl rfl rfl rfl rfl hM ?_); intro w254 hM
      refine wv rfl (r_assign rfl) ?_
      refine wl_nil ?_
      refine sq_n ?_
      refine wc_ret ?_
      obtain rfl := Option.some.inj hx
      refine fin_ret [(.agg #[(.int .i64 r205), s184.v, s197.v]), (.bool true)] ⟨rv_box Try.underlying25 sz25 rfl rfl hM (.head _), rfl, trivial⟩ ?_
      replace hM := hM.p2.p3
      replace hM := hM.t2
      have hM := hM.fewer rsN
      exact ⟨(s184, s197), rfl, hM.gives⟩

end Go.Proofs.Ythfkcpdechjmnaa
