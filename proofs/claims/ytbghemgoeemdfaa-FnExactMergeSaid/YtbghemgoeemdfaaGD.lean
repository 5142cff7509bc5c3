/- Walks of functions of this program (printed by a program of ours, by the rules of the layer). No condition. -/
import Derived.Test.YtbghemgoeemdfaaG3
import Derived.Test.YtbghemgoeemdfaaNr
namespace Go.Proofs.Ytbghemgoeemdfaa
open Go.RowKit

noncomputable def x_impl_diffOk (a : List Int) (b : List Int) : Option Bool :=
  Option.bind (x_impl_TextOk a) fun r3 => Option.bind (bif r3 then (Option.bind (x_impl_TextOk b) fun r16 => some r16) else (some false)) fun c8 => Option.bind (bif c8 then (some (decide ((a.length : Int) ≤ 60))) else (some false)) fun c21 => Option.bind (bif c21 then (some (decide ((b.length : Int) ≤ 60))) else (some false)) fun c30 => some c30
theorem ct_impl_diffOk (w : World) (X S : Bs) (a : List Int) (s_a : Sv) (b : List Int) (s_b : Sv) (hS : ∀ b, S b → b < w.heap.size ∧ ¬ X b) (a_a_0 : (cSl 1 fI a).rd S w s_a.v) (a_b_0 : (cSl 1 fI b).rd S w s_b.v) (oL : Sep [] X w) {r : Bool} (hx : x_impl_diffOk a b = some r) :
    Ret Try.prog 109 [s_a.v, s_b.v] w (fun u w' => ∃ _ : Unit, u = (.bool r) ∧ Gives X S w [] [] w') := by
  unfold x_impl_diffOk at hx
  refine enter Try.func109 rfl Try.ntmps109 (by kernel_rfl) rfl ?_
  have hM := St.enter oL hS
  have hM := hM.addE (r := rV s_a.v (cSl 1 fI a)) a_a_0
  have hM := hM.addE (r := rV s_b.v (cSl 1 fI b)) a_b_0
  refine wc_seq ?_
  refine wc_region ?_
  refine wv rfl (r_assign rfl) ?_
  refine wl_nil ?_
  refine sq_n ?_
  refine wc_seq ?_
  refine wc_region ?_
  refine wv rfl (r_move rfl) ?_
  obtain ⟨r41, h42, hx⟩ := bind_some' hx
  refine w_call rfl rfl (hM.callV fun X S oL hS hR hO => ct_impl_TextOk _ X S a s_a hS (hR _ (.tail _ (.head _))) oL h42) ?_
  rintro _ w43 ⟨rfl, hR44⟩
  have hM := hM.call hR44
  refine wv rfl (r_move rfl) ?_
  obtain ⟨c46, hx, hx53⟩ := bind_some' hx
  refine wl_mid 3 (fun _ : Unit => [(10, (.bool c46)), (0, s_a.v), (1, s_b.v)]) (fun _ w' => St ⟨w, X, S⟩ [] [rV s_b.v (cSl 1 fI b), rV s_a.v (cSl 1 fI a)] w') ?_ ?_
  · rcases Bool.eq_false_or_eq_true r41 with hg47 | hg47
    · replace hx := xif_t hg47 hx
      refine gv rfl hg47 rfl (r_move rfl) ?_
      obtain ⟨r55, h56, hx⟩ := bind_some' hx
      refine gc rfl hg47 rfl rfl (hM.callV fun X S oL hS hR hO => ct_impl_TextOk _ X S b s_b hS (hR _ (.head _)) oL h56) ?_
      rintro _ w57 ⟨rfl, hR58⟩
      have hM := hM.call hR58
      refine wv rfl (p_t rfl hg47 rfl) ?_
      obtain rfl := Option.some.inj hx
      exact mid_nil () ⟨rfl, rfl, rfl, trivial⟩ hM
    · replace hx := xif_f hg47 hx
      refine gs rfl (isB_no hg47) rfl ?_
      refine gs rfl (isB_no hg47) rfl ?_
      refine wv rfl (p_f rfl hg47 rfl) ?_
      obtain rfl := Option.some.inj hx
      exact mid_nil () ⟨rfl, rfl, rfl, trivial⟩ hM
  rintro _ w59 hM
  replace hx := hx53
  refine wv rfl (r_move rfl) ?_
  obtain ⟨c61, hx, hx66⟩ := bind_some' hx
  refine wl_mid 4 (fun _ : Unit => [(15, (.bool c61)), (1, s_b.v)]) (fun _ w' => St ⟨w, X, S⟩ [] [rV s_b.v (cSl 1 fI b), rV s_a.v (cSl 1 fI a)] w') ?_ ?_
  · rcases Bool.eq_false_or_eq_true c46 with hg62 | hg62
    · replace hx := xif_t hg62 hx
      refine gv rfl hg62 rfl (r_move rfl) ?_
      refine gv rfl hg62 rfl (r_lenC Try.underlying22 rfl (hM.seeR (.tail _ (.head _)))) ?_
      refine gv rfl hg62 rfl (r_leq rfl rfl) ?_
      refine wv rfl (p_t rfl hg62 rfl) ?_
      obtain rfl := Option.some.inj hx
      exact mid_nil () ⟨rfl, rfl, trivial⟩ hM
    · replace hx := xif_f hg62 hx
      refine gs rfl (isB_no hg62) rfl ?_
      refine gs rfl (isB_no hg62) rfl ?_
      refine gs rfl (isB_no hg62) rfl ?_
      refine wv rfl (p_f rfl hg62 rfl) ?_
      obtain rfl := Option.some.inj hx
      exact mid_nil () ⟨rfl, rfl, trivial⟩ hM
  rintro _ w70 hM
  replace hx := hx66
  refine wv rfl (r_move rfl) ?_
  obtain ⟨c72, hx, hx77⟩ := bind_some' hx
  refine wl_mid 4 (fun _ : Unit => [(20, (.bool c72))]) (fun _ w' => St ⟨w, X, S⟩ [] [rV s_b.v (cSl 1 fI b), rV s_a.v (cSl 1 fI a)] w') ?_ ?_
  · rcases Bool.eq_false_or_eq_true c61 with hg73 | hg73
    · replace hx := xif_t hg73 hx
      refine gv rfl hg73 rfl (r_move rfl) ?_
      refine gv rfl hg73 rfl (r_lenC Try.underlying22 rfl (hM.seeR (.head _))) ?_
      refine gv rfl hg73 rfl (r_leq rfl rfl) ?_
      refine wv rfl (p_t rfl hg73 rfl) ?_
      obtain rfl := Option.some.inj hx
      exact mid_nil () ⟨rfl, trivial⟩ hM
    · replace hx := xif_f hg73 hx
      refine gs rfl (isB_no hg73) rfl ?_
      refine gs rfl (isB_no hg73) rfl ?_
      refine gs rfl (isB_no hg73) rfl ?_
      refine wv rfl (p_f rfl hg73 rfl) ?_
      obtain rfl := Option.some.inj hx
      exact mid_nil () ⟨rfl, trivial⟩ hM
  rintro _ w81 hM
  replace hx := hx77
  refine wv rfl (r_assign rfl) ?_
  refine wl_nil ?_
  refine sq_n ?_
  refine wc_ret ?_
  obtain rfl := Option.some.inj hx
  refine fin_ret [(.bool c72)] ⟨rfl, trivial⟩ ?_
  replace hM := hM.t0
  have hM := hM.fewer rsN
  exact ⟨(), rfl, hM.gives⟩

noncomputable def x_impl_Diff_1 (x : Int) (y_ : Int) (p : List DPart) (px : List Int) (pxx : Int) : Option (List DPart × List Int × Int) :=
  Option.bind (bif decide (x = 1) then (some (decide (y_ = 1))) else (some false)) fun c8 => bif c8 then (xg (p.length < 1099511627776) <| xg (inI (pxx + y_)) <| some (p ++ [(⟨1, 1, []⟩ : DPart)], px, pxx + y_)) else (bif decide (x = 1) then (xg (p.length < 1099511627776) <| xg (inI (pxx + y_)) <| some (p ++ [(⟨3, 1, []⟩ : DPart)], px, pxx + y_)) else (xg (0 ≤ pxx ∧ pxx < (px.length : Int)) <| xg (p.length + [(⟨2, 0, [el px pxx.toNat]⟩ : DPart)].length ≤ 1099511627776) <| xg (inI (pxx + y_)) <| some (p ++ [(⟨2, 0, [el px pxx.toNat]⟩ : DPart)], px, pxx + y_)))
theorem ct_impl_Diff_1 (w : World) (X S : Bs) (x : Int) (y_ : Int) (b_p : Nat) (p : List DPart) (s_p : Sv) (b_px : Nat) (px : List Int) (s_px : Sv) (b_pxx : Nat) (pxx : Int) (hS : ∀ b, S b → b < w.heap.size ∧ ¬ X b) (a_px_0 : (cSl 1 fI px).rd S w s_px.v) (oL : Sep [oBox b_p #[s_p.v] 31, oC (cSl 3 fDPart p) s_p.v, oBox b_px #[s_px.v] 22, oBox b_pxx #[(.int .i64 pxx)] 3] X w) {r : List DPart × List Int × Int} (hx : x_impl_Diff_1 x y_ p px pxx = some r) :
    Ret Try.prog 111 [(.int .i64 x), (.int .i64 y_), (.pointer (some ⟨b_p, 0, none⟩)), (.pointer (some ⟨b_px, 0, none⟩)), (.pointer (some ⟨b_pxx, 0, none⟩))] w (fun u w' => ∃ y : Sv × Sv, u = .tuple #[] ∧ Gives X S w [oBox b_p #[y.1.v] 31, oC (cSl 3 fDPart r.1) y.1.v, oBox b_px #[y.2.v] 22, oBox b_pxx #[(.int .i64 r.2.2)] 3] [rV y.2.v (cSl 1 fI r.2.1)] w') := by
  unfold x_impl_Diff_1 at hx
  refine enter Try.func111 rfl Try.ntmps111 (by kernel_rfl) rfl ?_
  have hM := St.enter oL hS
  have hM := hM.addE (r := rV s_px.v (cSl 1 fI px)) a_px_0
  refine wc_seq ?_
  refine wc_block ?_
  refine wc_seq ?_
  refine wc_region ?_
  refine wv rfl (r_move rfl) ?_
  refine wv rfl (r_eql rfl rfl) ?_
  refine wv rfl (r_move rfl) ?_
  obtain ⟨c87, hx, hx91⟩ := bind_some' hx
  refine wl_mid 3 (fun _ : Unit => [(22, (.bool c87)), (0, (.int .i64 x)), (1, (.int .i64 y_)), (2, (.pointer (some ⟨b_p, 0, none⟩))), (3, (.pointer (some ⟨b_px, 0, none⟩))), (4, (.pointer (some ⟨b_pxx, 0, none⟩)))]) (fun _ w' => St ⟨w, X, S⟩ [oBox b_p #[s_p.v] 31, oC (cSl 3 fDPart p) s_p.v, oBox b_px #[s_px.v] 22, oBox b_pxx #[(.int .i64 pxx)] 3] [rV s_px.v (cSl 1 fI px)] w') ?_ ?_
  · rcases Bool.eq_false_or_eq_true (decide (x = 1)) with hg88 | hg88
    · replace hx := xif_t hg88 hx
      refine gv rfl hg88 rfl (r_move rfl) ?_
      refine gv rfl hg88 rfl (r_eql rfl rfl) ?_
      refine wv rfl (p_t rfl hg88 rfl) ?_
      obtain rfl := Option.some.inj hx
      exact mid_nil () ⟨rfl, rfl, rfl, rfl, rfl, rfl, trivial⟩ hM
    · replace hx := xif_f hg88 hx
      refine gs rfl (isB_no hg88) rfl ?_
      refine gs rfl (isB_no hg88) rfl ?_
      refine wv rfl (p_f rfl hg88 rfl) ?_
      obtain rfl := Option.some.inj hx
      exact mid_nil () ⟨rfl, rfl, rfl, rfl, rfl, rfl, trivial⟩ hM
  rintro _ w94 hM
  replace hx := hx91
  refine wv rfl (r_assign rfl) ?_
  refine wl_nil ?_
  refine sq_n ?_
  refine wc_cond rfl (fun hc96 => ?_) (fun hc96 => ?_)
  · replace hx := xif_t hc96 hx
    refine wc_region ?_
    refine wv rfl (r_ldB Try.underlying31 rfl rfl hM (.head _) rfl) ?_
    refine wv rfl (r_build (cells := #[(.int .i64 1), (.int .i64 1), (.slice none 0 0)]) rfl (by kernel_rfl)) ?_
    replace hM := hM.p1
    obtain ⟨hg102, hx⟩ := xg_some hx
    refine w_push (f := fDPart) (⟨1, 1, []⟩ : DPart) rfl rfl Try.underlying31 sz102 rfl rfl rfl rfl (fun _ => rfl) hM (fun _ => zP (pV _ rfl) (zP (pV _ rfl) (zP (pN _ _) zN))) rfl hg102 rfl ?_; intro u100 s101 w99 hM
    replace hM := hM.p1
    refine w_exu (x_stB #[s101.v] sz31 rfl rfl rfl rfl rfl rfl hM ?_); intro w103 hM
    refine wl_nil ?_
    refine bk_n ?_
    refine sq_n ?_
    refine wc_region ?_
    refine wv rfl (r_ldB Try.underlying3 rfl rfl hM (.tail _ (.tail _ (.tail _ (.head _)))) rfl) ?_
    refine wv rfl (r_move rfl) ?_
    obtain ⟨hg108, hx⟩ := xg_some hx
    refine wv rfl (r_add rfl rfl hg108) ?_
    replace hM := hM.p3
    refine w_exu (x_stB #[(.int .i64 (pxx + y_))] sz3 rfl rfl rfl rfl rfl rfl hM ?_); intro w109 hM
    refine wl_nil ?_
    obtain rfl := Option.some.inj hx
    refine fin_end [] trivial ?_
    replace hM := hM.p3.p3.p3
    replace hM := hM.t4
    have hM := hM.fewer (rsC (.head _) rsN)
    exact ⟨(s101, s_px), rfl, hM.gives⟩
  · replace hx := xif_f hc96 hx
    refine wc_seq ?_
    refine wc_region ?_
    refine wv rfl (r_move rfl) ?_
    refine wv rfl (r_eql rfl rfl) ?_
    refine wv rfl (r_assign rfl) ?_
    refine wl_nil ?_
    refine sq_n ?_
    refine wc_cond rfl (fun hc114 => ?_) (fun hc114 => ?_)
    · replace hx := xif_t hc114 hx
      refine wc_region ?_
      refine wv rfl (r_ldB Try.underlying31 rfl rfl hM (.head _) rfl) ?_
      refine wv rfl (r_build (cells := #[(.int .i64 3), (.int .i64 1), (.slice none 0 0)]) rfl (by kernel_rfl)) ?_
      replace hM := hM.p1
      obtain ⟨hg120, hx⟩ := xg_some hx
      refine w_push (f := fDPart) (⟨3, 1, []⟩ : DPart) rfl rfl Try.underlying31 sz102 rfl rfl rfl rfl (fun _ => rfl) hM (fun _ => zP (pV _ rfl) (zP (pV _ rfl) (zP (pN _ _) zN))) rfl hg120 rfl ?_; intro u118 s119 w117 hM
      replace hM := hM.p1
      refine w_exu (x_stB #[s119.v] sz31 rfl rfl rfl rfl rfl rfl hM ?_); intro w121 hM
      refine wl_nil ?_
      refine bk_n ?_
      refine sq_n ?_
      refine wc_region ?_
      refine wv rfl (r_ldB Try.underlying3 rfl rfl hM (.tail _ (.tail _ (.tail _ (.head _)))) rfl) ?_
      refine wv rfl (r_move rfl) ?_
      obtain ⟨hg126, hx⟩ := xg_some hx
      refine wv rfl (r_add rfl rfl hg126) ?_
      replace hM := hM.p3
      refine w_exu (x_stB #[(.int .i64 (pxx + y_))] sz3 rfl rfl rfl rfl rfl rfl hM ?_); intro w127 hM
      refine wl_nil ?_
      obtain rfl := Option.some.inj hx
      refine fin_end [] trivial ?_
      replace hM := hM.p3.p3.p3
      replace hM := hM.t4
      have hM := hM.fewer (rsC (.head _) rsN)
      exact ⟨(s119, s_px), rfl, hM.gives⟩
    · replace hx := xif_f hc114 hx
      refine wc_draw [(0, 0), (1, 0), (2, 0), (3, 0), (4, 0), (5, 1), (6, 0), (7, 1), (8, 2), (9, 2)] Try_mixed (by kernel_rfl) rfl (by kernel_rfl) rfl ?_
      refine ov rfl (fun w' h' => r_ldB Try.underlying31 rfl rfl (hM.call h') (.head _) rfl) ?_
      refine ov rfl (fun w' h' => r_ldB Try.underlying22 rfl rfl (hM.call h') (.tail _ (.tail _ (.head _))) rfl) ?_
      refine ov rfl (fun w' h' => r_ldB Try.underlying3 rfl rfl (hM.call h') (.tail _ (.tail _ (.tail _ (.head _)))) rfl) ?_
      obtain ⟨hg134, hx⟩ := xg_some hx
      have hi133 : pxx.toNat < px.length := by omega
      refine ov rfl (fun w' h' => r_ixC Try.underlying22 sz3 rfl rfl ((hM.call h').seeR (.head _)) hg134) ?_
      refine ov rfl (fun w' h' => r_ld Try.underlying3 rfl rfl (Cs.get (i := pxx.toNat) (j := 0) ((hM.call h').seeR (.head _)) (fun _ => rfl) hi133 rfl)) ?_
      refine o_ex1 rfl fun w139 h140 => ?_
      have hM := hM.call h140
      refine x_lit (f := fI) (own := []) [el px pxx.toNat] [(.int .i64 (el px pxx.toNat))] 1 Try.underlying22 sz3 (fun _ => rfl) rfl rfl rfl rfl rfl (by kernel_rfl) (fun _ => zP (pV _ rfl) zN) hM ?_; intro s137 w136 hR138 hM
      refine ⟨hR138, ?_⟩
      refine ov rfl (fun w' h' => r_build (cells := #[(.int .i64 2), (.int .i64 0), s137.v]) rfl (by kernel_rfl)) ?_
      refine o_ex1 rfl fun w146 h147 => ?_
      have hM := hM.call h147
      refine x_lit (f := fDPart) (own := [oC (cSl 1 fI [el px pxx.toNat]) s137.v]) [(⟨2, 0, [el px pxx.toNat]⟩ : DPart)] [(.int .i64 2), (.int .i64 0), s137.v] 1 Try.underlying31 sz102 (fun _ => rfl) rfl rfl rfl rfl rfl (by kernel_rfl) (fun _ => zP (pV _ rfl) (zP (pV _ rfl) (zO zN))) hM ?_; intro s144 w143 hR145 hM
      refine ⟨hR145, ?_⟩
      replace hM := hM.p2
      obtain ⟨hg151, hx⟩ := xg_some hx
      refine o_ex rfl fun w153 h154 => ?_
      have hM := hM.call h154
      refine x_appendO Try.underlying31 sz102 rfl rfl hM hg151 rfl ?_; intro s150 w149 hM
      replace hM := hM.p1
      refine o_exu fun w157 h158 => ?_
      have hM := hM.call h158
      refine x_stB #[s150.v] sz31 rfl rfl rfl rfl rfl rfl hM ?_; intro w155 hM
      refine o_nil fun w159 hw160 => ?_
      have hM := hM.call hw160
      refine bk_n ?_
      refine sq_n ?_
      refine wc_region ?_
      refine wv rfl (r_ldB Try.underlying3 rfl rfl hM (.tail _ (.tail _ (.tail _ (.head _)))) rfl) ?_
      refine wv rfl (r_move rfl) ?_
      obtain ⟨hg164, hx⟩ := xg_some hx
      refine wv rfl (r_add rfl rfl hg164) ?_
      replace hM := hM.p3
      refine w_exu (x_stB #[(.int .i64 (pxx + y_))] sz3 rfl rfl rfl rfl rfl rfl hM ?_); intro w165 hM
      refine wl_nil ?_
      obtain rfl := Option.some.inj hx
      refine fin_end [] trivial ?_
      replace hM := hM.p3.p3.p3
      replace hM := hM.t4
      have hM := hM.fewer (rsC (.head _) rsN)
      exact ⟨(s150, s_px), rfl, hM.gives⟩

noncomputable def x_impl_align_b0 (b : List Int) (k41 : Nat) (l42 : List (List Int)) : Option (Lr (List (List Int)) (List (List Int))) :=
  xg (inI ((b.length : Int) + 1)) <| xg (0 ≤ ((b.length : Int) + 1) ∧ ((b.length : Int) + 1) ≤ 1099511627776) <| xg (0 ≤ (k41 : Int) ∧ (k41 : Int) < (l42.length : Int)) <| some (Lr.go (l42.set k41 (List.replicate (((b.length : Int) + 1).toNat) 0)))
noncomputable def x_impl_align_f0 (b : List Int) (k41 : Nat) (s89 : List (List Int)) : Option (Lr (List (List Int)) (List (List Int))) := x_impl_align_b0 b k41 s89
noncomputable def x_impl_align_b2 (i461 : Int) (a : List Int) (b : List Int) (j950 : Int) (l951 : List (List Int)) : Option (Lr (Int × List (List Int)) (List (List Int))) :=
  bif decide ((0 : Int) ≤ j950) then (xg (0 ≤ i461 ∧ i461 < (a.length : Int)) <| xg (0 ≤ j950 ∧ j950 < (b.length : Int)) <| bif decide ((el a i461.toNat) = (el b j950.toNat)) then (xg (0 ≤ i461 ∧ i461 < (l951.length : Int)) <| xg (inI (i461 + 1)) <| xg (0 ≤ (i461 + 1) ∧ (i461 + 1) < (l951.length : Int)) <| xg (inI (j950 + 1)) <| xg (0 ≤ (j950 + 1) ∧ (j950 + 1) < ((el l951 ((i461 + 1).toNat)).length : Int)) <| xg (inI ((el (el l951 ((i461 + 1).toNat)) ((j950 + 1).toNat)) + 1)) <| xg (0 ≤ j950 ∧ j950 < ((el l951 i461.toNat).length : Int)) <| xg (inI (j950 - 1)) <| some (Lr.go (j950 - 1, l951.set i461.toNat ((el l951 i461.toNat).set j950.toNat ((el (el l951 ((i461 + 1).toNat)) ((j950 + 1).toNat)) + 1))))) else (xg (0 ≤ i461 ∧ i461 < (l951.length : Int)) <| xg (inI (i461 + 1)) <| xg (0 ≤ (i461 + 1) ∧ (i461 + 1) < (l951.length : Int)) <| xg (0 ≤ j950 ∧ j950 < ((el l951 ((i461 + 1).toNat)).length : Int)) <| xg (0 ≤ i461 ∧ i461 < (l951.length : Int)) <| xg (inI (j950 + 1)) <| xg (0 ≤ (j950 + 1) ∧ (j950 + 1) < ((el l951 i461.toNat).length : Int)) <| xg (0 ≤ j950 ∧ j950 < ((el l951 i461.toNat).length : Int)) <| xg (inI (j950 - 1)) <| some (Lr.go (j950 - 1, l951.set i461.toNat ((el l951 i461.toNat).set j950.toNat (max (el (el l951 ((i461 + 1).toNat)) j950.toNat) (el (el l951 i461.toNat) ((j950 + 1).toNat)))))))) else (some (Lr.out l951))
noncomputable def x_impl_align_f2 (i461 : Int) (a : List Int) (b : List Int) (s1183 : Int × List (List Int)) : Option (Lr (Int × List (List Int)) (List (List Int))) := x_impl_align_b2 i461 a b s1183.1 s1183.2
noncomputable def x_impl_align_b1 (b : List Int) (a : List Int) (i461 : Int) (l462 : List (List Int)) : Option (Lr (Int × List (List Int)) (List (List Int))) :=
  bif decide ((0 : Int) ≤ i461) then (xg (inI ((b.length : Int) - 1)) <| Option.bind (iter (x_impl_align_f2 i461 a b) ((b.length : Int) - 1, l462)) fun (y1184 : List (List Int)) => xg (inI (i461 - 1)) <| some (Lr.go (i461 - 1, y1184))) else (some (Lr.out l462))
noncomputable def x_impl_align_f1 (b : List Int) (a : List Int) (s1190 : Int × List (List Int)) : Option (Lr (Int × List (List Int)) (List (List Int))) := x_impl_align_b1 b a s1190.1 s1190.2
noncomputable def x_impl_align_b3 (a : List Int) (b : List Int) (y1191 : List (List Int)) (i1441 : Int) (j1442 : Int) (l1443 : List DPart) (l1444 : List Int) (n1445 : Int) : Option (Lr (Int × Int × List DPart × List Int × Int) (List DPart × List Int × Int)) :=
  Option.bind (bif decide (i1441 < (a.length : Int)) then (some true) else (some (decide (j1442 < (b.length : Int))))) fun c1697 => bif c1697 then (Option.bind (bif decide (i1441 < (a.length : Int)) then (some (decide (j1442 < (b.length : Int)))) else (some false)) fun c1712 => Option.bind (bif c1712 then (xg (0 ≤ i1441 ∧ i1441 < (a.length : Int)) <| xg (0 ≤ j1442 ∧ j1442 < (b.length : Int)) <| some (decide ((el a i1441.toNat) = (el b j1442.toNat)))) else (some false)) fun c1723 => bif c1723 then (Option.bind (x_impl_Diff_1 1 1 l1443 l1444 n1445) fun r1755 => xg (inI (i1441 + 1)) <| xg (inI (j1442 + 1)) <| some (Lr.go (i1441 + 1, j1442 + 1, r1755.1, r1755.2.1, r1755.2.2))) else (Option.bind (bif decide (j1442 = (b.length : Int)) then (some true) else (Option.bind (bif decide (i1441 < (a.length : Int)) then (xg (inI (i1441 + 1)) <| xg (0 ≤ (i1441 + 1) ∧ (i1441 + 1) < (y1191.length : Int)) <| xg (0 ≤ j1442 ∧ j1442 < ((el y1191 ((i1441 + 1).toNat)).length : Int)) <| xg (0 ≤ i1441 ∧ i1441 < (y1191.length : Int)) <| xg (inI (j1442 + 1)) <| xg (0 ≤ (j1442 + 1) ∧ (j1442 + 1) < ((el y1191 i1441.toNat).length : Int)) <| some (decide ((el (el y1191 i1441.toNat) ((j1442 + 1).toNat)) ≤ (el (el y1191 ((i1441 + 1).toNat)) j1442.toNat)))) else (some false)) fun c1849 => some c1849)) fun c1773 => bif c1773 then (Option.bind (x_impl_Diff_1 1 0 l1443 l1444 n1445) fun r1917 => xg (inI (i1441 + 1)) <| some (Lr.go (i1441 + 1, j1442, r1917.1, r1917.2.1, r1917.2.2))) else (Option.bind (x_impl_Diff_1 0 1 l1443 l1444 n1445) fun r1927 => xg (inI (j1442 + 1)) <| some (Lr.go (i1441, j1442 + 1, r1927.1, r1927.2.1, r1927.2.2))))) else (some (Lr.out (l1443, l1444, n1445)))
noncomputable def x_impl_align_f3 (a : List Int) (b : List Int) (y1191 : List (List Int)) (s1936 : Int × Int × List DPart × List Int × Int) : Option (Lr (Int × Int × List DPart × List Int × Int) (List DPart × List Int × Int)) := x_impl_align_b3 a b y1191 s1936.1 s1936.2.1 s1936.2.2.1 s1936.2.2.2.1 s1936.2.2.2.2
noncomputable def x_impl_align (a : List Int) (b : List Int) (c : List DPart) (cx : List Int) (cxx : Int) : Option (List DPart × List Int × Int) :=
  xg (inI ((a.length : Int) + 1)) <| xg (0 ≤ ((a.length : Int) + 1) ∧ ((a.length : Int) + 1) ≤ 1099511627776) <| Option.bind (eachN (x_impl_align_f0 b) (fun (s89 : List (List Int)) => (s89 : List (List Int))) (List.replicate (((a.length : Int) + 1).toNat) ([] : List Int)).length 0 (List.replicate (((a.length : Int) + 1).toNat) ([] : List Int))) fun (y90 : List (List Int)) => xg (inI ((a.length : Int) - 1)) <| Option.bind (iter (x_impl_align_f1 b a) ((a.length : Int) - 1, y90)) fun (y1191 : List (List Int)) => Option.bind (iter (x_impl_align_f3 a b y1191) (0, 0, c, cx, cxx)) fun (y1937 : List DPart × List Int × Int) => some (y1937.1, y1937.2.1, y1937.2.2)
theorem ct_impl_align (w : World) (X S : Bs) (a : List Int) (s_a : Sv) (b : List Int) (s_b : Sv) (b_c : Nat) (c : List DPart) (s_c : Sv) (b_cx : Nat) (cx : List Int) (s_cx : Sv) (b_cxx : Nat) (cxx : Int) (hS : ∀ b, S b → b < w.heap.size ∧ ¬ X b) (a_a_0 : (cSl 1 fI a).rd S w s_a.v) (a_b_0 : (cSl 1 fI b).rd S w s_b.v) (a_cx_0 : (cSl 1 fI cx).rd S w s_cx.v) (oL : Sep [oBox b_c #[s_c.v] 31, oC (cSl 3 fDPart c) s_c.v, oBox b_cx #[s_cx.v] 22, oBox b_cxx #[(.int .i64 cxx)] 3] X w) {r : List DPart × List Int × Int} (hx : x_impl_align a b c cx cxx = some r) :
    Ret Try.prog 110 [s_a.v, s_b.v, (.func (.func 111) #[] #[(.pointer (some ⟨b_c, 0, none⟩)), (.pointer (some ⟨b_cx, 0, none⟩)), (.pointer (some ⟨b_cxx, 0, none⟩))])] w (fun u w' => ∃ y : Sv × Sv, u = .tuple #[] ∧ Gives X S w [oBox b_c #[y.1.v] 31, oC (cSl 3 fDPart r.1) y.1.v, oBox b_cx #[y.2.v] 22, oBox b_cxx #[(.int .i64 r.2.2)] 3] [rV y.2.v (cSl 1 fI r.2.1)] w') := by
  unfold x_impl_align at hx
  refine enter Try.func110 rfl Try.ntmps110 (by kernel_rfl) rfl ?_
  have hM := St.enter oL hS
  have hM := hM.addE (r := rV s_a.v (cSl 1 fI a)) a_a_0
  have hM := hM.addE (r := rV s_b.v (cSl 1 fI b)) a_b_0
  have hM := hM.addE (r := rV s_cx.v (cSl 1 fI cx)) a_cx_0
  refine wc_seq ?_
  refine wc_region ?_
  refine wv rfl (r_move rfl) ?_
  refine wv rfl (r_lenC Try.underlying22 rfl (hM.seeR (.tail _ (.tail _ (.head _))))) ?_
  obtain ⟨hg1943, hx⟩ := xg_some hx
  refine wv rfl (r_add rfl rfl hg1943) ?_
  obtain ⟨hg1946, hx⟩ := xg_some hx
  have hk1947 : (a.length : Int) + 1 = (((a.length : Int) + 1).toNat : Int) := by omega
  refine w_ex rfl (x_make (f := fLI) (k := (((a.length : Int) + 1).toNat)) ([] : List Int) Try.underlying145 sz22 (fun _ => rfl) (fun _ => zP (pN _ _) zN) (by rw [← hk1947]; rfl) (by omega) rfl hM ?_); intro s1945 w1944 hR1948 hM
  refine wv rfl (r_assign rfl) ?_
  refine wl_nil ?_
  refine sq_n ?_
  refine wc_seq ?_
  refine wc_seq ?_
  refine wc_region ?_
  refine wv rfl (r_move rfl) ?_
  refine wv rfl (r_lenC Try.underlying145 rfl (hM.seeO (.head _))) ?_
  refine wv rfl (r_move rfl) ?_
  refine wl_nil ?_
  refine sq_n ?_
  refine wc_block ?_
  obtain ⟨y1954, hx, hx1955⟩ := bind_some' hx
  replace hM := hM.p4.p4.p4.p4
  have hM := hM.fewer (rsC (.tail _ (.tail _ (.head _))) (rsC (.tail _ (.head _)) (rsC (.head _) rsN)))
  replace hM : St ⟨w, X, S⟩ [oBox b_c #[s_c.v] 31, oC (cSl 3 fDPart c) s_c.v, oBox b_cx #[s_cx.v] 22, oBox b_cxx #[(.int .i64 cxx)] 3, oC (cSl 1 fLI (List.replicate (((a.length : Int) + 1).toNat) ([] : List Int))) s1945.v] [rV s_a.v (cSl 1 fI a), rV s_b.v (cSl 1 fI b), rV s_cx.v (cSl 1 fI cx)] _ := hM
  have hl1960 := Cs.le (hM.seeO (.tail _ (.tail _ (.tail _ (.tail _ (.head _))))))
  refine wc_loop (un fun (m1957 : Nat) => un fun (k1958 : Nat) => fun (l1956 : List (List Int)) => [(0, s_a.v), (1, s_b.v), (2, (.func (.func 111) #[] #[(.pointer (some ⟨b_c, 0, none⟩)), (.pointer (some ⟨b_cx, 0, none⟩)), (.pointer (some ⟨b_cxx, 0, none⟩))])), (6, s1945.v), (17, (.int .i64 ((List.replicate (((a.length : Int) + 1).toNat) ([] : List Int)).length : Int))), (18, (.int .i64 (k1958 : Int)))]) (un fun (m1957 : Nat) => un fun (k1958 : Nat) => fun (l1956 : List (List Int)) w' => St ⟨w, X, S⟩ [oBox b_c #[s_c.v] 31, oC (cSl 3 fDPart c) s_c.v, oBox b_cx #[s_cx.v] 22, oBox b_cxx #[(.int .i64 cxx)] 3, oC (cSl 1 fLI l1956) s1945.v] [rV s_a.v (cSl 1 fI a), rV s_b.v (cSl 1 fI b), rV s_cx.v (cSl 1 fI cx)] w' ∧ eachN _ _ m1957 k1958 l1956 = some y1954 ∧ k1958 + m1957 = (List.replicate (((a.length : Int) + 1).toNat) ([] : List Int)).length) (fun p => p.1) ((List.replicate (((a.length : Int) + 1).toNat) ([] : List Int)).length, 0, List.replicate (((a.length : Int) + 1).toNat) ([] : List Int)) ⟨rfl, rfl, rfl, rfl, rfl, rfl, trivial⟩ ⟨hM, hx, Nat.zero_add _⟩ ?_
  rintro ⟨m1957, k1958, l1956⟩ w1961 ⟨hM, hx, hk1959⟩
  refine wc_seq ?_
  refine wc_region ?_
  refine wv rfl (r_lss rfl rfl) ?_
  refine wl_nil ?_
  refine sq_n ?_
  refine wc_seq ?_
  refine wc_cond rfl (fun hc1963 => ?_) (fun hc1963 => ?_)
  · replace hc1963 := of_decide_eq_true hc1963
    obtain ⟨m1964, z1965, rfl, hk1959, hx, hx1966⟩ := eachN_step hx hk1959 hc1963
    unfold x_impl_align_f0 x_impl_align_b0 at hx
    try dsimp only at hx
    refine wc_skip ?_
    refine sq_n ?_
    refine wc_seq ?_
    refine wc_block ?_
    refine wc_seq ?_
    refine wc_region ?_
    refine wv rfl (r_move rfl) ?_
    refine wv rfl (r_assign rfl) ?_
    refine wl_nil ?_
    refine sq_n ?_
    refine wc_region ?_
    refine wv rfl (r_move rfl) ?_
    refine wv rfl (r_move rfl) ?_
    refine wv rfl (r_move rfl) ?_
    refine wv rfl (r_lenC Try.underlying22 rfl (hM.seeR (.tail _ (.head _)))) ?_
    obtain ⟨hg1974, hx⟩ := xg_some hx
    refine wv rfl (r_add rfl rfl hg1974) ?_
    obtain ⟨hg1977, hx⟩ := xg_some hx
    have hk1978 : (b.length : Int) + 1 = (((b.length : Int) + 1).toNat : Int) := by omega
    refine w_ex rfl (x_make (f := fI) (k := (((b.length : Int) + 1).toNat)) 0 Try.underlying22 sz3 (fun _ => rfl) (fun _ => zP (pV _ rfl) zN) (by rw [← hk1978]; rfl) (by omega) rfl hM ?_); intro s1976 w1975 hR1979 hM
    obtain ⟨hg1983, hx⟩ := xg_some hx
    have hi1982 : k1958 < l1956.length := by omega
    refine wv rfl (r_ixC Try.underlying145 sz22 rfl rfl (hM.seeO (.tail _ (.tail _ (.tail _ (.tail _ (.tail _ (.head _))))))) hg1983) ?_
    replace hM := hM.p5
    refine w_exu (x_stE (f := fLI) (k := 1) (L := l1956) (i := k1958) (j := 0) (List.replicate (((b.length : Int) + 1).toNat) 0) [cSl 1 fI (List.replicate (((b.length : Int) + 1).toNat) 0)] sz22 (fun _ => rfl) rfl rfl hi1982 rfl rfl rfl rfl rfl (fun _ => zO zN) hM ?_); intro w1984 hM
    refine wl_nil ?_
    refine bk_n ?_
    refine sq_n ?_
    refine wc_region ?_
    refine wv rfl (r_add rfl rfl ⟨by omega, by omega⟩) ?_
    refine wv rfl (r_move rfl) ?_
    refine wl_nil ?_
    obtain rfl := Option.some.inj hx
    replace hM := hM.p4.p4.p4.p4
    exact lp_end (m1964, k1958 + 1, l1956.set k1958 (List.replicate (((b.length : Int) + 1).toNat) 0)) (Nat.lt_succ_self _) ⟨rfl, rfl, rfl, rfl, rfl, rfl, trivial⟩ ⟨hM, hx1966, hk1959⟩
  · replace hc1963 := of_decide_eq_false hc1963
    obtain rfl := eachN_end hx hk1959 hc1963
    refine wc_exit ?_
    refine sq_exit ?_
    refine lp1_exit ?_
    replace hx := hx1955
    try dsimp only [Sum.elim_inl, Sum.elim_inr] at hx
    refine bk_here ?_
    refine sq_n ?_
    refine wc_seq ?_
    refine wc_seq ?_
    refine wc_region ?_
    refine wv rfl (r_move rfl) ?_
    refine wv rfl (r_lenC Try.underlying22 rfl (hM.seeR (.head _))) ?_
    obtain ⟨hg1991, hx⟩ := xg_some hx
    refine wv rfl (r_sub rfl rfl hg1991) ?_
    refine wv rfl (r_assign rfl) ?_
    refine wl_nil ?_
    refine sq_n ?_
    refine wc_block ?_
    obtain ⟨y1993, hx, hx1994⟩ := bind_some' hx
    obtain ⟨m2000, hx⟩ := iter_run hx
    refine wc_loop (un fun (m1998 : Nat) => un fun (i1995 : Int) => un fun (l1996 : List (List Int)) => fun (s1997 : Sv) => [(0, s_a.v), (1, s_b.v), (2, (.func (.func 111) #[] #[(.pointer (some ⟨b_c, 0, none⟩)), (.pointer (some ⟨b_cx, 0, none⟩)), (.pointer (some ⟨b_cxx, 0, none⟩))])), (6, s1997.v), (8, (.int .i64 i1995))]) (un fun (m1998 : Nat) => un fun (i1995 : Int) => un fun (l1996 : List (List Int)) => fun (s1997 : Sv) w' => St ⟨w, X, S⟩ [oBox b_c #[s_c.v] 31, oC (cSl 3 fDPart c) s_c.v, oBox b_cx #[s_cx.v] 22, oBox b_cxx #[(.int .i64 cxx)] 3, oC (cSl 1 fLI l1996) s1997.v] [rV s_a.v (cSl 1 fI a), rV s_b.v (cSl 1 fI b), rV s_cx.v (cSl 1 fI cx)] w' ∧ iterN _ m1998 (i1995, l1996) = some y1993) (fun p => p.1) (m2000, (a.length : Int) - 1, l1956, s1945) ⟨rfl, rfl, rfl, rfl, rfl, trivial⟩ ⟨hM, hx⟩ ?_
    rintro ⟨m1998, i1995, l1996, s1997⟩ w2001 ⟨hM, hx⟩
    obtain ⟨m2002, z2003, rfl, hx, hx2004⟩ := iterN_step hx
    unfold x_impl_align_f1 x_impl_align_b1 at hx
    try dsimp only at hx
    refine wc_seq ?_
    refine wc_seq ?_
    refine wc_region ?_
    refine wv rfl (r_move rfl) ?_
    refine wv rfl (r_geq rfl rfl) ?_
    refine wl_nil ?_
    refine sq_n ?_
    refine wc_cond rfl (fun hc2007 => ?_) (fun hc2007 => ?_)
    · replace hx := xif_t hc2007 hx
      refine wc_skip ?_
      refine sq_n ?_
      refine wc_seq ?_
      refine wc_block ?_
      refine wc_seq ?_
      refine wc_region ?_
      refine wv rfl (r_move rfl) ?_
      refine wv rfl (r_lenC Try.underlying22 rfl (hM.seeR (.tail _ (.head _)))) ?_
      obtain ⟨hg2011, hx⟩ := xg_some hx
      refine wv rfl (r_sub rfl rfl hg2011) ?_
      refine wv rfl (r_assign rfl) ?_
      refine wl_nil ?_
      refine sq_n ?_
      refine wc_block ?_
      obtain ⟨y2013, hx, hx2014⟩ := bind_some' hx
      obtain ⟨m2019, hx⟩ := iter_run hx
      refine wc_loop (un fun (m2017 : Nat) => un fun (j2015 : Int) => fun (l2016 : List (List Int)) => [(0, s_a.v), (1, s_b.v), (2, (.func (.func 111) #[] #[(.pointer (some ⟨b_c, 0, none⟩)), (.pointer (some ⟨b_cx, 0, none⟩)), (.pointer (some ⟨b_cxx, 0, none⟩))])), (6, s1997.v), (8, (.int .i64 i1995)), (9, (.int .i64 j2015))]) (un fun (m2017 : Nat) => un fun (j2015 : Int) => fun (l2016 : List (List Int)) w' => St ⟨w, X, S⟩ [oBox b_c #[s_c.v] 31, oC (cSl 3 fDPart c) s_c.v, oBox b_cx #[s_cx.v] 22, oBox b_cxx #[(.int .i64 cxx)] 3, oC (cSl 1 fLI l2016) s1997.v] [rV s_a.v (cSl 1 fI a), rV s_b.v (cSl 1 fI b), rV s_cx.v (cSl 1 fI cx)] w' ∧ iterN _ m2017 (j2015, l2016) = some y2013) (fun p => p.1) (m2019, (b.length : Int) - 1, l1996) ⟨rfl, rfl, rfl, rfl, rfl, rfl, trivial⟩ ⟨hM, hx⟩ ?_
      rintro ⟨m2017, j2015, l2016⟩ w2020 ⟨hM, hx⟩
      obtain ⟨m2021, z2022, rfl, hx, hx2023⟩ := iterN_step hx
      unfold x_impl_align_f2 x_impl_align_b2 at hx
      try dsimp only at hx
      refine wc_seq ?_
      refine wc_seq ?_
      refine wc_region ?_
      refine wv rfl (r_move rfl) ?_
      refine wv rfl (r_geq rfl rfl) ?_
      refine wl_nil ?_
      refine sq_n ?_
      refine wc_cond rfl (fun hc2026 => ?_) (fun hc2026 => ?_)
      · replace hx := xif_t hc2026 hx
        refine wc_skip ?_
        refine sq_n ?_
        refine wc_seq ?_
        refine wc_block ?_
        refine wc_seq ?_
        refine wc_draw [(0, 0), (1, 0), (2, 0), (3, 0), (4, 0), (5, 0), (6, 0), (7, 0), (8, 0)] Try_mixed (by kernel_rfl) rfl (by kernel_rfl) rfl ?_
        refine ov rfl (fun w' h' => r_move rfl) ?_
        refine ov rfl (fun w' h' => r_move rfl) ?_
        obtain ⟨hg2031, hx⟩ := xg_some hx
        have hi2030 : i1995.toNat < a.length := by omega
        refine ov rfl (fun w' h' => r_ixC Try.underlying22 sz3 rfl rfl ((hM.call h').seeR (.head _)) hg2031) ?_
        refine ov rfl (fun w' h' => r_ld Try.underlying3 rfl rfl (Cs.get (i := i1995.toNat) (j := 0) ((hM.call h').seeR (.head _)) (fun _ => rfl) hi2030 rfl)) ?_
        refine ov rfl (fun w' h' => r_move rfl) ?_
        refine ov rfl (fun w' h' => r_move rfl) ?_
        obtain ⟨hg2037, hx⟩ := xg_some hx
        have hi2036 : j2015.toNat < b.length := by omega
        refine ov rfl (fun w' h' => r_ixC Try.underlying22 sz3 rfl rfl ((hM.call h').seeR (.tail _ (.head _))) hg2037) ?_
        refine ov rfl (fun w' h' => r_ld Try.underlying3 rfl rfl (Cs.get (i := j2015.toNat) (j := 0) ((hM.call h').seeR (.tail _ (.head _))) (fun _ => rfl) hi2036 rfl)) ?_
        refine ov rfl (fun w' h' => r_eql rfl rfl) ?_
        refine o_nil fun w2040 hw2041 => ?_
        have hM := hM.call hw2041
        refine sq_n ?_
        refine wc_cond rfl (fun hc2042 => ?_) (fun hc2042 => ?_)
        · replace hx := xif_t hc2042 hx
          refine wc_draw [(0, 0), (1, 0), (2, 0), (3, 0), (4, 0), (5, 0), (6, 0), (7, 0), (8, 0), (9, 0), (10, 0), (11, 0), (12, 0), (13, 0), (14, 0), (15, 0), (16, 2)] Try_mixed (by kernel_rfl) rfl (by kernel_rfl) rfl ?_
          refine ov rfl (fun w' h' => r_move rfl) ?_
          refine ov rfl (fun w' h' => r_move rfl) ?_
          obtain ⟨hg2047, hx⟩ := xg_some hx
          have hi2046 : i1995.toNat < l2016.length := by omega
          refine ov rfl (fun w' h' => r_ixC Try.underlying145 sz22 rfl rfl ((hM.call h').seeO (.tail _ (.tail _ (.tail _ (.tail _ (.head _)))))) hg2047) ?_
          replace hM := hM.p4
          obtain ⟨s2049, hM, hc2050⟩ := hM.leafO (i := i1995.toNat) (j := 0) (fun _ => rfl) hi2046 rfl
          refine ov rfl (fun w' h' => r_ld Try.underlying22 rfl rfl (hc2050 w' h')) ?_
          refine ov rfl (fun w' h' => r_move rfl) ?_
          refine ov rfl (fun w' h' => r_move rfl) ?_
          refine ov rfl (fun w' h' => r_move rfl) ?_
          obtain ⟨hg2055, hx⟩ := xg_some hx
          refine ov rfl (fun w' h' => r_add rfl rfl hg2055) ?_
          obtain ⟨hg2058, hx⟩ := xg_some hx
          have hi2057 : ((i1995 + 1).toNat) < l2016.length := by omega
          refine ov rfl (fun w' h' => r_ixC Try.underlying145 sz22 rfl rfl ((hM.call h').seeOV (.head _)) hg2058) ?_
          obtain ⟨s2060, hM, hc2061⟩ := hM.leafV (i := ((i1995 + 1).toNat)) (j := 0) (fun _ => rfl) hi2057 rfl
          refine ov rfl (fun w' h' => r_ld Try.underlying22 rfl rfl (hc2061 w' h')) ?_
          refine ov rfl (fun w' h' => r_move rfl) ?_
          obtain ⟨hg2064, hx⟩ := xg_some hx
          refine ov rfl (fun w' h' => r_add rfl rfl hg2064) ?_
          obtain ⟨hg2067, hx⟩ := xg_some hx
          have hi2066 : ((j2015 + 1).toNat) < (el l2016 ((i1995 + 1).toNat)).length := by omega
          refine ov rfl (fun w' h' => r_ixC Try.underlying22 sz3 rfl rfl ((hM.call h').seeV (.head _) (.head _)) hg2067) ?_
          refine ov rfl (fun w' h' => r_ld Try.underlying3 rfl rfl (Cs.get (i := ((j2015 + 1).toNat)) (j := 0) ((hM.call h').seeV (.head _) (.head _)) (fun _ => rfl) hi2066 rfl)) ?_
          obtain ⟨hg2070, hx⟩ := xg_some hx
          refine ov rfl (fun w' h' => r_add rfl rfl hg2070) ?_
          obtain ⟨hg2073, hx⟩ := xg_some hx
          have hi2072 : j2015.toNat < (el l2016 i1995.toNat).length := by omega
          refine ov rfl (fun w' h' => r_ixC Try.underlying22 sz3 rfl rfl ((hM.call h').seeV (.head _) (.tail _ (.tail _ (.head _)))) hg2073) ?_
          have hM := hM.open (i := i1995.toNat) (j := 0) (.tail _ (.tail _ (.tail _ (.head _)))) (fun _ => rfl) hi2046 rfl
          refine o_exu fun w2078 h2079 => ?_
          have hM := hM.call h2079
          refine x_stE (f := fI) (k := 1) (L := (el l2016 i1995.toNat)) (i := j2015.toNat) (j := 0) ((el (el l2016 ((i1995 + 1).toNat)) ((j2015 + 1).toNat)) + 1) [cI ((el (el l2016 ((i1995 + 1).toNat)) ((j2015 + 1).toNat)) + 1)] sz3 (fun _ => rfl) rfl rfl hi2072 rfl rfl rfl rfl rfl (fun _ => zP (pV _ rfl) zN) hM ?_; intro w2074 hM
          have hM := hM.close (i := i1995.toNat) (j := 0) ((el l2016 i1995.toNat).set j2015.toNat ((el (el l2016 ((i1995 + 1).toNat)) ((j2015 + 1).toNat)) + 1)) (fun _ => rfl) hi2046 rfl rfl
          refine o_nil fun w2080 hw2081 => ?_
          have hM := hM.call hw2081
          refine bk_n ?_
          refine sq_n ?_
          refine wc_region ?_
          refine wv rfl (r_move rfl) ?_
          obtain ⟨hg2084, hx⟩ := xg_some hx
          refine wv rfl (r_sub rfl rfl hg2084) ?_
          refine wv rfl (r_assign rfl) ?_
          refine wl_nil ?_
          obtain rfl := Option.some.inj hx
          replace hM := hM.p4.p4.p4.p4
          exact lp_end (m2021, j2015 - 1, l2016.set i1995.toNat ((el l2016 i1995.toNat).set j2015.toNat ((el (el l2016 ((i1995 + 1).toNat)) ((j2015 + 1).toNat)) + 1))) (Nat.lt_succ_self _) ⟨rfl, rfl, rfl, rfl, rfl, rfl, trivial⟩ ⟨hM, hx2023⟩
        · replace hx := xif_f hc2042 hx
          refine wc_draw [(0, 0), (1, 0), (2, 0), (3, 0), (4, 0), (5, 0), (6, 0), (7, 0), (8, 0), (9, 0), (10, 0), (11, 0), (12, 0), (13, 0), (14, 0), (15, 0), (16, 0), (17, 0), (18, 0), (19, 0), (20, 0), (21, 0), (22, 0), (23, 2)] Try_mixed (by kernel_rfl) rfl (by kernel_rfl) rfl ?_
          refine ov rfl (fun w' h' => r_move rfl) ?_
          refine ov rfl (fun w' h' => r_move rfl) ?_
          obtain ⟨hg2090, hx⟩ := xg_some hx
          have hi2089 : i1995.toNat < l2016.length := by omega
          refine ov rfl (fun w' h' => r_ixC Try.underlying145 sz22 rfl rfl ((hM.call h').seeO (.tail _ (.tail _ (.tail _ (.tail _ (.head _)))))) hg2090) ?_
          replace hM := hM.p4
          obtain ⟨s2092, hM, hc2093⟩ := hM.leafO (i := i1995.toNat) (j := 0) (fun _ => rfl) hi2089 rfl
          refine ov rfl (fun w' h' => r_ld Try.underlying22 rfl rfl (hc2093 w' h')) ?_
          refine ov rfl (fun w' h' => r_move rfl) ?_
          refine ov rfl (fun w' h' => r_move rfl) ?_
          refine ov rfl (fun w' h' => r_move rfl) ?_
          obtain ⟨hg2098, hx⟩ := xg_some hx
          refine ov rfl (fun w' h' => r_add rfl rfl hg2098) ?_
          obtain ⟨hg2101, hx⟩ := xg_some hx
          have hi2100 : ((i1995 + 1).toNat) < l2016.length := by omega
          refine ov rfl (fun w' h' => r_ixC Try.underlying145 sz22 rfl rfl ((hM.call h').seeOV (.head _)) hg2101) ?_
          obtain ⟨s2103, hM, hc2104⟩ := hM.leafV (i := ((i1995 + 1).toNat)) (j := 0) (fun _ => rfl) hi2100 rfl
          refine ov rfl (fun w' h' => r_ld Try.underlying22 rfl rfl (hc2104 w' h')) ?_
          refine ov rfl (fun w' h' => r_move rfl) ?_
          obtain ⟨hg2108, hx⟩ := xg_some hx
          have hi2107 : j2015.toNat < (el l2016 ((i1995 + 1).toNat)).length := by omega
          refine ov rfl (fun w' h' => r_ixC Try.underlying22 sz3 rfl rfl ((hM.call h').seeV (.head _) (.head _)) hg2108) ?_
          refine ov rfl (fun w' h' => r_ld Try.underlying3 rfl rfl (Cs.get (i := j2015.toNat) (j := 0) ((hM.call h').seeV (.head _) (.head _)) (fun _ => rfl) hi2107 rfl)) ?_
          refine ov rfl (fun w' h' => r_move rfl) ?_
          refine ov rfl (fun w' h' => r_move rfl) ?_
          obtain ⟨hg2114, hx⟩ := xg_some hx
          have hi2113 : i1995.toNat < l2016.length := by omega
          refine ov rfl (fun w' h' => r_ixC Try.underlying145 sz22 rfl rfl ((hM.call h').seeOV (.head _)) hg2114) ?_
          obtain ⟨s2116, hM, hc2117⟩ := hM.leafV (i := i1995.toNat) (j := 0) (fun _ => rfl) hi2113 rfl
          refine ov rfl (fun w' h' => r_ld Try.underlying22 rfl rfl (hc2117 w' h')) ?_
          refine ov rfl (fun w' h' => r_move rfl) ?_
          obtain ⟨hg2120, hx⟩ := xg_some hx
          refine ov rfl (fun w' h' => r_add rfl rfl hg2120) ?_
          obtain ⟨hg2123, hx⟩ := xg_some hx
          have hi2122 : ((j2015 + 1).toNat) < (el l2016 i1995.toNat).length := by omega
          refine ov rfl (fun w' h' => r_ixC Try.underlying22 sz3 rfl rfl ((hM.call h').seeV (.head _) (.head _)) hg2123) ?_
          refine ov rfl (fun w' h' => r_ld Try.underlying3 rfl rfl (Cs.get (i := ((j2015 + 1).toNat)) (j := 0) ((hM.call h').seeV (.head _) (.head _)) (fun _ => rfl) hi2122 rfl)) ?_
          refine ov rfl (fun w' h' => r_max Try.underlying3 rfl rfl) ?_
          obtain ⟨hg2128, hx⟩ := xg_some hx
          have hi2127 : j2015.toNat < (el l2016 i1995.toNat).length := by omega
          refine ov rfl (fun w' h' => r_ixC Try.underlying22 sz3 rfl rfl ((hM.call h').seeV (.head _) (.tail _ (.tail _ (.tail _ (.tail _ (.head _)))))) hg2128) ?_
          have hM := hM.open (i := i1995.toNat) (j := 0) (.tail _ (.tail _ (.tail _ (.tail _ (.tail _ (.head _)))))) (fun _ => rfl) hi2089 rfl
          refine o_exu fun w2133 h2134 => ?_
          have hM := hM.call h2134
          refine x_stE (f := fI) (k := 1) (L := (el l2016 i1995.toNat)) (i := j2015.toNat) (j := 0) (max (el (el l2016 ((i1995 + 1).toNat)) j2015.toNat) (el (el l2016 i1995.toNat) ((j2015 + 1).toNat))) [cI (max (el (el l2016 ((i1995 + 1).toNat)) j2015.toNat) (el (el l2016 i1995.toNat) ((j2015 + 1).toNat)))] sz3 (fun _ => rfl) rfl rfl hi2127 rfl rfl rfl rfl rfl (fun _ => zP (pV _ rfl) zN) hM ?_; intro w2129 hM
          have hM := hM.close (i := i1995.toNat) (j := 0) ((el l2016 i1995.toNat).set j2015.toNat (max (el (el l2016 ((i1995 + 1).toNat)) j2015.toNat) (el (el l2016 i1995.toNat) ((j2015 + 1).toNat)))) (fun _ => rfl) hi2089 rfl rfl
          refine o_nil fun w2135 hw2136 => ?_
          have hM := hM.call hw2136
          refine bk_n ?_
          refine sq_n ?_
          refine wc_region ?_
          refine wv rfl (r_move rfl) ?_
          obtain ⟨hg2139, hx⟩ := xg_some hx
          refine wv rfl (r_sub rfl rfl hg2139) ?_
          refine wv rfl (r_assign rfl) ?_
          refine wl_nil ?_
          obtain rfl := Option.some.inj hx
          replace hM := hM.p4.p4.p4.p4
          exact lp_end (m2021, j2015 - 1, l2016.set i1995.toNat ((el l2016 i1995.toNat).set j2015.toNat (max (el (el l2016 ((i1995 + 1).toNat)) j2015.toNat) (el (el l2016 i1995.toNat) ((j2015 + 1).toNat))))) (Nat.lt_succ_self _) ⟨rfl, rfl, rfl, rfl, rfl, rfl, trivial⟩ ⟨hM, hx2023⟩
      · replace hx := xif_f hc2026 hx
        refine wc_exit ?_
        refine sq_exit ?_
        refine lp1_exit ?_
        obtain rfl := Option.some.inj hx
        obtain rfl := Option.some.inj hx2023
        replace hx := hx2014
        try dsimp only [Sum.elim_inl, Sum.elim_inr] at hx
        refine bk_here ?_
        refine bk_n ?_
        refine sq_n ?_
        refine wc_region ?_
        refine wv rfl (r_move rfl) ?_
        obtain ⟨hg2143, hx⟩ := xg_some hx
        refine wv rfl (r_sub rfl rfl hg2143) ?_
        refine wv rfl (r_assign rfl) ?_
        refine wl_nil ?_
        obtain rfl := Option.some.inj hx
        exact lp_end (m2002, i1995 - 1, l2016, s1997) (Nat.lt_succ_self _) ⟨rfl, rfl, rfl, rfl, rfl, trivial⟩ ⟨hM, hx2004⟩
    · replace hx := xif_f hc2007 hx
      refine wc_exit ?_
      refine sq_exit ?_
      refine lp1_exit ?_
      obtain rfl := Option.some.inj hx
      obtain rfl := Option.some.inj hx2004
      replace hx := hx1994
      try dsimp only [Sum.elim_inl, Sum.elim_inr] at hx
      refine bk_here ?_
      refine sq_n ?_
      refine wc_seq ?_
      refine wc_region ?_
      refine wv rfl (r_assign rfl) ?_
      refine wv rfl (r_assign rfl) ?_
      refine wl_nil ?_
      refine sq_n ?_
      refine wc_block ?_
      obtain ⟨y2147, hx, hx2148⟩ := bind_some' hx
      have hM := hM.fewer (rsC (.tail _ (.tail _ (.head _))) (rsC (.head _) (rsC (.tail _ (.head _)) rsN)))
      replace hM : St ⟨w, X, S⟩ [oBox b_c #[s_c.v] 31, oC (cSl 3 fDPart c) s_c.v, oBox b_cx #[s_cx.v] 22, oBox b_cxx #[(.int .i64 cxx)] 3, oC (cSl 1 fLI l1996) s1997.v] [rV s_cx.v (cSl 1 fI cx), rV s_a.v (cSl 1 fI a), rV s_b.v (cSl 1 fI b)] _ := hM
      obtain ⟨m2158, hx⟩ := iter_run hx
      refine wc_loop (un fun (m2156 : Nat) => un fun (i2149 : Int) => un fun (j2150 : Int) => un fun (l2151 : List DPart) => un fun (l2152 : List Int) => un fun (n2153 : Int) => un fun (s2154 : Sv) => fun (s2155 : Sv) => [(0, s_a.v), (1, s_b.v), (2, (.func (.func 111) #[] #[(.pointer (some ⟨b_c, 0, none⟩)), (.pointer (some ⟨b_cx, 0, none⟩)), (.pointer (some ⟨b_cxx, 0, none⟩))])), (6, s1997.v), (10, (.int .i64 i2149)), (11, (.int .i64 j2150))]) (un fun (m2156 : Nat) => un fun (i2149 : Int) => un fun (j2150 : Int) => un fun (l2151 : List DPart) => un fun (l2152 : List Int) => un fun (n2153 : Int) => un fun (s2154 : Sv) => fun (s2155 : Sv) w' => St ⟨w, X, S⟩ [oBox b_c #[s2154.v] 31, oC (cSl 3 fDPart l2151) s2154.v, oBox b_cx #[s2155.v] 22, oBox b_cxx #[(.int .i64 n2153)] 3, oC (cSl 1 fLI l1996) s1997.v] [rV s2155.v (cSl 1 fI l2152), rV s_a.v (cSl 1 fI a), rV s_b.v (cSl 1 fI b)] w' ∧ iterN _ m2156 (i2149, j2150, l2151, l2152, n2153) = some y2147) (fun p => p.1) (m2158, 0, 0, c, cx, cxx, s_c, s_cx) ⟨rfl, rfl, rfl, rfl, rfl, rfl, trivial⟩ ⟨hM, hx⟩ ?_
      rintro ⟨m2156, i2149, j2150, l2151, l2152, n2153, s2154, s2155⟩ w2159 ⟨hM, hx⟩
      obtain ⟨m2160, z2161, rfl, hx, hx2162⟩ := iterN_step hx
      unfold x_impl_align_f3 x_impl_align_b3 at hx
      try dsimp only at hx
      refine wc_seq ?_
      refine wc_seq ?_
      refine wc_region ?_
      refine wv rfl (r_move rfl) ?_
      refine wv rfl (r_move rfl) ?_
      refine wv rfl (r_lenC Try.underlying22 rfl (hM.seeR (.tail _ (.head _)))) ?_
      refine wv rfl (r_lss rfl rfl) ?_
      refine wv rfl (r_move rfl) ?_
      obtain ⟨c2168, hx, hx2174⟩ := bind_some' hx
      refine wl_mid 5 (fun _ : Unit => [(100, (.bool c2168)), (0, s_a.v), (1, s_b.v), (2, (.func (.func 111) #[] #[(.pointer (some ⟨b_c, 0, none⟩)), (.pointer (some ⟨b_cx, 0, none⟩)), (.pointer (some ⟨b_cxx, 0, none⟩))])), (6, s1997.v), (10, (.int .i64 i2149)), (11, (.int .i64 j2150))]) (fun _ w' => St ⟨w, X, S⟩ [oBox b_c #[s2154.v] 31, oC (cSl 3 fDPart l2151) s2154.v, oBox b_cx #[s2155.v] 22, oBox b_cxx #[(.int .i64 n2153)] 3, oC (cSl 1 fLI l1996) s1997.v] [rV s2155.v (cSl 1 fI l2152), rV s_a.v (cSl 1 fI a), rV s_b.v (cSl 1 fI b)] w') ?_ ?_
      · rcases Bool.eq_false_or_eq_true (decide (i2149 < (a.length : Int))) with hg2169 | hg2169
        · replace hx := xif_t hg2169 hx
          refine gs rfl (isB_no hg2169) rfl ?_
          refine gs rfl (isB_no hg2169) rfl ?_
          refine gs rfl (isB_no hg2169) rfl ?_
          refine gs rfl (isB_no hg2169) rfl ?_
          refine wv rfl (p_t rfl hg2169 rfl) ?_
          obtain rfl := Option.some.inj hx
          exact mid_nil () ⟨rfl, rfl, rfl, rfl, rfl, rfl, rfl, trivial⟩ hM
        · replace hx := xif_f hg2169 hx
          refine gv rfl hg2169 rfl (r_move rfl) ?_
          refine gv rfl hg2169 rfl (r_move rfl) ?_
          refine gv rfl hg2169 rfl (r_lenC Try.underlying22 rfl (hM.seeR (.tail _ (.tail _ (.head _))))) ?_
          refine gv rfl hg2169 rfl (r_lss rfl rfl) ?_
          refine wv rfl (p_f rfl hg2169 rfl) ?_
          obtain rfl := Option.some.inj hx
          exact mid_nil () ⟨rfl, rfl, rfl, rfl, rfl, rfl, rfl, trivial⟩ hM
      rintro _ w2179 hM
      replace hx := hx2174
      refine wl_nil ?_
      refine sq_n ?_
      refine wc_cond rfl (fun hc2180 => ?_) (fun hc2180 => ?_)
      · replace hx := xif_t hc2180 hx
        refine wc_skip ?_
        refine sq_n ?_
        refine wc_block ?_
        refine wc_block ?_
        refine wc_seq ?_
        refine wc_draw [(0, 0), (1, 0), (2, 0), (3, 0), (4, 0), (5, 0), (6, 0), (7, 0), (8, 0), (9, 0), (10, 0), (11, 0), (12, 0), (13, 0), (14, 0), (15, 0), (16, 0), (17, 0), (18, 0), (19, 0), (20, 0), (21, 0)] Try_mixed (by kernel_rfl) rfl (by kernel_rfl) rfl ?_
        refine ov rfl (fun w' h' => r_move rfl) ?_
        refine ov rfl (fun w' h' => r_move rfl) ?_
        refine ov rfl (fun w' h' => r_lenC Try.underlying22 rfl ((hM.call h').seeR (.tail _ (.head _)))) ?_
        refine ov rfl (fun w' h' => r_lss rfl rfl) ?_
        refine ov rfl (fun w' h' => r_move rfl) ?_
        obtain ⟨c2186, hx, hx2192⟩ := bind_some' hx
        refine wo_mid 5 [(115, (.bool c2186)), (0, s_a.v), (1, s_b.v), (2, (.func (.func 111) #[] #[(.pointer (some ⟨b_c, 0, none⟩)), (.pointer (some ⟨b_cx, 0, none⟩)), (.pointer (some ⟨b_cxx, 0, none⟩))])), (6, s1997.v), (10, (.int .i64 i2149)), (11, (.int .i64 j2150))] rfl ?_ ?_
        · rcases Bool.eq_false_or_eq_true (decide (i2149 < (a.length : Int))) with hg2187 | hg2187
          · replace hx := xif_t hg2187 hx
            refine ogv rfl hg2187 rfl (fun w' h' => r_move rfl) ?_
            refine ogv rfl hg2187 rfl (fun w' h' => r_move rfl) ?_
            refine ogv rfl hg2187 rfl (fun w' h' => r_lenC Try.underlying22 rfl ((hM.call h').seeR (.tail _ (.tail _ (.head _))))) ?_
            refine ogv rfl hg2187 rfl (fun w' h' => r_lss rfl rfl) ?_
            refine ov rfl (fun w' h' => p_t rfl hg2187 rfl) ?_
            obtain rfl := Option.some.inj hx
            exact mid_onil ⟨rfl, rfl, rfl, rfl, rfl, rfl, rfl, trivial⟩
          · replace hx := xif_f hg2187 hx
            refine ogs rfl (isB_no hg2187) rfl ?_
            refine ogs rfl (isB_no hg2187) rfl ?_
            refine ogs rfl (isB_no hg2187) rfl ?_
            refine ogs rfl (isB_no hg2187) rfl ?_
            refine ov rfl (fun w' h' => p_f rfl hg2187 rfl) ?_
            obtain rfl := Option.some.inj hx
            exact mid_onil ⟨rfl, rfl, rfl, rfl, rfl, rfl, rfl, trivial⟩
        replace hx := hx2192
        refine ov rfl (fun w' h' => r_move rfl) ?_
        obtain ⟨c2198, hx, hx2213⟩ := bind_some' hx
        refine wo_mid 10 [(126, (.bool c2198)), (0, s_a.v), (1, s_b.v), (2, (.func (.func 111) #[] #[(.pointer (some ⟨b_c, 0, none⟩)), (.pointer (some ⟨b_cx, 0, none⟩)), (.pointer (some ⟨b_cxx, 0, none⟩))])), (6, s1997.v), (10, (.int .i64 i2149)), (11, (.int .i64 j2150))] rfl ?_ ?_
        · rcases Bool.eq_false_or_eq_true c2186 with hg2199 | hg2199
          · replace hx := xif_t hg2199 hx
            refine ogv rfl hg2199 rfl (fun w' h' => r_move rfl) ?_
            refine ogv rfl hg2199 rfl (fun w' h' => r_move rfl) ?_
            obtain ⟨hg2218, hx⟩ := xg_some hx
            have hi2217 : i2149.toNat < a.length := by omega
            refine ogv rfl hg2199 rfl (fun w' h' => r_ixC Try.underlying22 sz3 rfl rfl ((hM.call h').seeR (.tail _ (.head _))) hg2218) ?_
            refine ogv rfl hg2199 rfl (fun w' h' => r_ld Try.underlying3 rfl rfl (Cs.get (i := i2149.toNat) (j := 0) ((hM.call h').seeR (.tail _ (.head _))) (fun _ => rfl) hi2217 rfl)) ?_
            refine ogv rfl hg2199 rfl (fun w' h' => r_move rfl) ?_
            refine ogv rfl hg2199 rfl (fun w' h' => r_move rfl) ?_
            obtain ⟨hg2224, hx⟩ := xg_some hx
            have hi2223 : j2150.toNat < b.length := by omega
            refine ogv rfl hg2199 rfl (fun w' h' => r_ixC Try.underlying22 sz3 rfl rfl ((hM.call h').seeR (.tail _ (.tail _ (.head _)))) hg2224) ?_
            refine ogv rfl hg2199 rfl (fun w' h' => r_ld Try.underlying3 rfl rfl (Cs.get (i := j2150.toNat) (j := 0) ((hM.call h').seeR (.tail _ (.tail _ (.head _)))) (fun _ => rfl) hi2223 rfl)) ?_
            refine ogv rfl hg2199 rfl (fun w' h' => r_eql rfl rfl) ?_
            refine ov rfl (fun w' h' => p_t rfl hg2199 rfl) ?_
            obtain rfl := Option.some.inj hx
            exact mid_onil ⟨rfl, rfl, rfl, rfl, rfl, rfl, rfl, trivial⟩
          · replace hx := xif_f hg2199 hx
            refine ogs rfl (isB_no hg2199) rfl ?_
            refine ogs rfl (isB_no hg2199) rfl ?_
            refine ogs rfl (isB_no hg2199) rfl ?_
            refine ogs rfl (isB_no hg2199) rfl ?_
            refine ogs rfl (isB_no hg2199) rfl ?_
            refine ogs rfl (isB_no hg2199) rfl ?_
            refine ogs rfl (isB_no hg2199) rfl ?_
            refine ogs rfl (isB_no hg2199) rfl ?_
            refine ogs rfl (isB_no hg2199) rfl ?_
            refine ov rfl (fun w' h' => p_f rfl hg2199 rfl) ?_
            obtain rfl := Option.some.inj hx
            exact mid_onil ⟨rfl, rfl, rfl, rfl, rfl, rfl, rfl, trivial⟩
        replace hx := hx2213
        refine ov rfl (fun w' h' => r_assign rfl) ?_
        refine o_nil fun w2228 hw2229 => ?_
        have hM := hM.call hw2229
        refine sq_n ?_
        refine wc_cond rfl (fun hc2230 => ?_) (fun hc2230 => ?_)
        · replace hx := xif_t hc2230 hx
          refine wc_seq ?_
          refine wc_region ?_
          refine wv rfl (r_move rfl) ?_
          obtain ⟨r2232, h2233, hx⟩ := bind_some' hx
          refine w_callv (cap := [(.pointer (some ⟨b_c, 0, none⟩)), (.pointer (some ⟨b_cx, 0, none⟩)), (.pointer (some ⟨b_cxx, 0, none⟩))]) rfl rfl rfl (hM.callR (l := [oBox b_c #[s2154.v] 31, oC (cSl 3 fDPart l2151) s2154.v, oBox b_cx #[s2155.v] 22, oBox b_cxx #[(.int .i64 n2153)] 3]) fun X S oL hS hR => ct_impl_Diff_1 _ X S (1 : Int) (1 : Int) b_c l2151 s2154 b_cx l2152 s2155 b_cxx n2153 hS (hR _ (.head _)) oL h2233) ?_
          rintro _ w2234 ⟨⟨s2235, s2236⟩, rfl, hM⟩
          replace hM : St ⟨w, X, S⟩ [oBox b_c #[s2235.v] 31, oC (cSl 3 fDPart r2232.1) s2235.v, oBox b_cx #[s2236.v] 22, oBox b_cxx #[(.int .i64 r2232.2.2)] 3, oC (cSl 1 fLI l1996) s1997.v] [rV s2236.v (cSl 1 fI r2232.2.1), rV s2155.v (cSl 1 fI l2152), rV s_a.v (cSl 1 fI a), rV s_b.v (cSl 1 fI b)] _ := hM
          refine wl_nil ?_
          refine sq_n ?_
          refine wc_seq ?_
          refine wc_region ?_
          refine wv rfl (r_move rfl) ?_
          obtain ⟨hg2239, hx⟩ := xg_some hx
          refine wv rfl (r_add rfl rfl hg2239) ?_
          refine wv rfl (r_assign rfl) ?_
          refine wl_nil ?_
          refine sq_n ?_
          refine wc_region ?_
          refine wv rfl (r_move rfl) ?_
          obtain ⟨hg2243, hx⟩ := xg_some hx
          refine wv rfl (r_add rfl rfl hg2243) ?_
          refine wv rfl (r_assign rfl) ?_
          refine wl_nil ?_
          refine bk_n ?_
          refine bk_n ?_
          obtain rfl := Option.some.inj hx
          have hM := hM.fewer (rsC (.head _) (rsC (.tail _ (.tail _ (.head _))) (rsC (.tail _ (.tail _ (.tail _ (.head _)))) rsN)))
          replace hM : St ⟨w, X, S⟩ [oBox b_c #[s2235.v] 31, oC (cSl 3 fDPart r2232.1) s2235.v, oBox b_cx #[s2236.v] 22, oBox b_cxx #[(.int .i64 r2232.2.2)] 3, oC (cSl 1 fLI l1996) s1997.v] [rV s2236.v (cSl 1 fI r2232.2.1), rV s_a.v (cSl 1 fI a), rV s_b.v (cSl 1 fI b)] _ := hM
          exact lp_end (m2160, i2149 + 1, j2150 + 1, r2232.1, r2232.2.1, r2232.2.2, s2235, s2236) (Nat.lt_succ_self _) ⟨rfl, rfl, rfl, rfl, rfl, rfl, trivial⟩ ⟨hM, hx2162⟩
        · replace hx := xif_f hc2230 hx
          refine wc_seq ?_
          refine wc_draw [(0, 0), (1, 0), (2, 0), (3, 0), (4, 0), (5, 0), (6, 0), (7, 0), (8, 0), (9, 0), (10, 0), (11, 0), (12, 0), (13, 0), (14, 0), (15, 0), (16, 0), (17, 0), (18, 0), (19, 0), (20, 0), (21, 0), (22, 0), (23, 0), (24, 0), (25, 0), (26, 0), (27, 0), (28, 0), (29, 0)] Try_mixed (by kernel_rfl) rfl (by kernel_rfl) rfl ?_
          refine ov rfl (fun w' h' => r_move rfl) ?_
          refine ov rfl (fun w' h' => r_move rfl) ?_
          refine ov rfl (fun w' h' => r_lenC Try.underlying22 rfl ((hM.call h').seeR (.tail _ (.tail _ (.head _))))) ?_
          refine ov rfl (fun w' h' => r_eql rfl rfl) ?_
          refine ov rfl (fun w' h' => r_move rfl) ?_
          obtain ⟨c2250, hx, hx2321⟩ := bind_some' hx
          refine wo_mid 24 [(162, (.bool c2250)), (0, s_a.v), (1, s_b.v), (2, (.func (.func 111) #[] #[(.pointer (some ⟨b_c, 0, none⟩)), (.pointer (some ⟨b_cx, 0, none⟩)), (.pointer (some ⟨b_cxx, 0, none⟩))])), (6, s1997.v), (10, (.int .i64 i2149)), (11, (.int .i64 j2150))] rfl ?_ ?_
          · rcases Bool.eq_false_or_eq_true (decide (j2150 = (b.length : Int))) with hg2251 | hg2251
            · replace hx := xif_t hg2251 hx
              refine ogs rfl (isB_no hg2251) rfl ?_
              refine ogs rfl (isB_no hg2251) rfl ?_
              refine ogs rfl (isB_no hg2251) rfl ?_
              refine ogs rfl (isB_no hg2251) rfl ?_
              refine ogs rfl (isB_no hg2251) rfl ?_
              refine ogs rfl rfl rfl ?_
              refine ogs rfl rfl rfl ?_
              refine ogs rfl rfl rfl ?_
              refine ogs rfl rfl rfl ?_
              refine ogs rfl rfl rfl ?_
              refine ogs rfl rfl rfl ?_
              refine ogs rfl rfl rfl ?_
              refine ogs rfl rfl rfl ?_
              refine ogs rfl rfl rfl ?_
              refine ogs rfl rfl rfl ?_
              refine ogs rfl rfl rfl ?_
              refine ogs rfl rfl rfl ?_
              refine ogs rfl rfl rfl ?_
              refine ogs rfl rfl rfl ?_
              refine ogs rfl rfl rfl ?_
              refine ogs rfl rfl rfl ?_
              refine ogs rfl rfl rfl ?_
              refine ogs rfl (isB_no hg2251) rfl ?_
              refine ov rfl (fun w' h' => p_t rfl hg2251 rfl) ?_
              obtain rfl := Option.some.inj hx
              exact mid_onil ⟨rfl, rfl, rfl, rfl, rfl, rfl, rfl, trivial⟩
            · replace hx := xif_f hg2251 hx
              refine ogv rfl hg2251 rfl (fun w' h' => r_move rfl) ?_
              refine ogv rfl hg2251 rfl (fun w' h' => r_move rfl) ?_
              refine ogv rfl hg2251 rfl (fun w' h' => r_lenC Try.underlying22 rfl ((hM.call h').seeR (.tail _ (.head _)))) ?_
              refine ogv rfl hg2251 rfl (fun w' h' => r_lss rfl rfl) ?_
              refine ogv rfl hg2251 rfl (fun w' h' => r_move rfl) ?_
              obtain ⟨c2327, hx, hx2360⟩ := bind_some' hx
              refine wo_mid 18 [(161, (.bool c2327)), (0, s_a.v), (1, s_b.v), (2, (.func (.func 111) #[] #[(.pointer (some ⟨b_c, 0, none⟩)), (.pointer (some ⟨b_cx, 0, none⟩)), (.pointer (some ⟨b_cxx, 0, none⟩))])), (6, s1997.v), (10, (.int .i64 i2149)), (11, (.int .i64 j2150)), (138, (.bool (decide (j2150 = (b.length : Int))))), (139, (.int .i64 i2149)), (140, s_a.v), (141, (.int .i64 (a.length : Int))), (142, (.bool (decide (i2149 < (a.length : Int))))), (143, (.bool (decide (i2149 < (a.length : Int)))))] rfl ?_ ?_
              · rcases Bool.eq_false_or_eq_true (decide (i2149 < (a.length : Int))) with hg2328 | hg2328
                · replace hx := xif_t hg2328 hx
                  refine ogv rfl hg2328 rfl (fun w' h' => r_move rfl) ?_
                  refine ogv rfl hg2328 rfl (fun w' h' => r_move rfl) ?_
                  obtain ⟨hg2364, hx⟩ := xg_some hx
                  refine ogv rfl hg2328 rfl (fun w' h' => r_add rfl rfl hg2364) ?_
                  obtain ⟨hg2367, hx⟩ := xg_some hx
                  have hi2366 : ((i2149 + 1).toNat) < l1996.length := by omega
                  refine ogv rfl hg2328 rfl (fun w' h' => r_ixC Try.underlying145 sz22 rfl rfl ((hM.call h').seeO (.tail _ (.tail _ (.tail _ (.tail _ (.head _)))))) hg2367) ?_
                  replace hM := hM.p4
                  obtain ⟨s2369, hM, hc2370⟩ := hM.leafO (i := ((i2149 + 1).toNat)) (j := 0) (fun _ => rfl) hi2366 rfl
                  refine ogv rfl hg2328 rfl (fun w' h' => r_ld Try.underlying22 rfl rfl (hc2370 w' h')) ?_
                  refine ogv rfl hg2328 rfl (fun w' h' => r_move rfl) ?_
                  obtain ⟨hg2374, hx⟩ := xg_some hx
                  have hi2373 : j2150.toNat < (el l1996 ((i2149 + 1).toNat)).length := by omega
                  refine ogv rfl hg2328 rfl (fun w' h' => r_ixC Try.underlying22 sz3 rfl rfl ((hM.call h').seeV (.head _) (.head _)) hg2374) ?_
                  refine ogv rfl hg2328 rfl (fun w' h' => r_ld Try.underlying3 rfl rfl (Cs.get (i := j2150.toNat) (j := 0) ((hM.call h').seeV (.head _) (.head _)) (fun _ => rfl) hi2373 rfl)) ?_
                  refine ogv rfl hg2328 rfl (fun w' h' => r_move rfl) ?_
                  refine ogv rfl hg2328 rfl (fun w' h' => r_move rfl) ?_
                  obtain ⟨hg2380, hx⟩ := xg_some hx
                  have hi2379 : i2149.toNat < l1996.length := by omega
                  refine ogv rfl hg2328 rfl (fun w' h' => r_ixC Try.underlying145 sz22 rfl rfl ((hM.call h').seeOV (.head _)) hg2380) ?_
                  obtain ⟨s2382, hM, hc2383⟩ := hM.leafV (i := i2149.toNat) (j := 0) (fun _ => rfl) hi2379 rfl
                  refine ogv rfl hg2328 rfl (fun w' h' => r_ld Try.underlying22 rfl rfl (hc2383 w' h')) ?_
                  refine ogv rfl hg2328 rfl (fun w' h' => r_move rfl) ?_
                  obtain ⟨hg2386, hx⟩ := xg_some hx
                  refine ogv rfl hg2328 rfl (fun w' h' => r_add rfl rfl hg2386) ?_
                  obtain ⟨hg2389, hx⟩ := xg_some hx
                  have hi2388 : ((j2150 + 1).toNat) < (el l1996 i2149.toNat).length := by omega
                  refine ogv rfl hg2328 rfl (fun w' h' => r_ixC Try.underlying22 sz3 rfl rfl ((hM.call h').seeV (.head _) (.head _)) hg2389) ?_
                  refine ogv rfl hg2328 rfl (fun w' h' => r_ld Try.underlying3 rfl rfl (Cs.get (i := ((j2150 + 1).toNat)) (j := 0) ((hM.call h').seeV (.head _) (.head _)) (fun _ => rfl) hi2388 rfl)) ?_
                  refine ogv rfl hg2328 rfl (fun w' h' => r_geq rfl rfl) ?_
                  refine ogv rfl hg2251 rfl (fun w' h' => p_t rfl hg2328 rfl) ?_
                  obtain rfl := Option.some.inj hx
                  exact mid_onil ⟨rfl, rfl, rfl, rfl, rfl, rfl, rfl, rfl, rfl, rfl, rfl, rfl, rfl, trivial⟩
                · replace hx := xif_f hg2328 hx
                  refine ogs rfl (isB_no hg2328) rfl ?_
                  refine ogs rfl (isB_no hg2328) rfl ?_
                  refine ogs rfl (isB_no hg2328) rfl ?_
                  refine ogs rfl (isB_no hg2328) rfl ?_
                  refine ogs rfl (isB_no hg2328) rfl ?_
                  refine ogs rfl (isB_no hg2328) rfl ?_
                  refine ogs rfl (isB_no hg2328) rfl ?_
                  refine ogs rfl (isB_no hg2328) rfl ?_
                  refine ogs rfl (isB_no hg2328) rfl ?_
                  refine ogs rfl (isB_no hg2328) rfl ?_
                  refine ogs rfl (isB_no hg2328) rfl ?_
                  refine ogs rfl (isB_no hg2328) rfl ?_
                  refine ogs rfl (isB_no hg2328) rfl ?_
                  refine ogs rfl (isB_no hg2328) rfl ?_
                  refine ogs rfl (isB_no hg2328) rfl ?_
                  refine ogs rfl (isB_no hg2328) rfl ?_
                  refine ogs rfl (isB_no hg2328) rfl ?_
                  refine ogv rfl hg2251 rfl (fun w' h' => p_f rfl hg2328 rfl) ?_
                  obtain rfl := Option.some.inj hx
                  exact mid_onil ⟨rfl, rfl, rfl, rfl, rfl, rfl, rfl, rfl, rfl, rfl, rfl, rfl, rfl, trivial⟩
              replace hx := hx2360
              refine ov rfl (fun w' h' => p_f rfl hg2251 rfl) ?_
              obtain rfl := Option.some.inj hx
              exact mid_onil ⟨rfl, rfl, rfl, rfl, rfl, rfl, rfl, trivial⟩
          replace hx := hx2321
          refine ov rfl (fun w' h' => r_assign rfl) ?_
          refine o_nil fun w2393 hw2394 => ?_
          have hM := hM.call hw2394
          refine sq_n ?_
          refine wc_cond rfl (fun hc2395 => ?_) (fun hc2395 => ?_)
          · replace hx := xif_t hc2395 hx
            refine wc_seq ?_
            refine wc_region ?_
            refine wv rfl (r_move rfl) ?_
            obtain ⟨r2397, h2398, hx⟩ := bind_some' hx
            refine w_callv (cap := [(.pointer (some ⟨b_c, 0, none⟩)), (.pointer (some ⟨b_cx, 0, none⟩)), (.pointer (some ⟨b_cxx, 0, none⟩))]) rfl rfl rfl (hM.callR (l := [oBox b_c #[s2154.v] 31, oC (cSl 3 fDPart l2151) s2154.v, oBox b_cx #[s2155.v] 22, oBox b_cxx #[(.int .i64 n2153)] 3]) fun X S oL hS hR => ct_impl_Diff_1 _ X S (1 : Int) (0 : Int) b_c l2151 s2154 b_cx l2152 s2155 b_cxx n2153 hS (hR _ (.head _)) oL h2398) ?_
            rintro _ w2399 ⟨⟨s2400, s2401⟩, rfl, hM⟩
            replace hM : St ⟨w, X, S⟩ [oBox b_c #[s2400.v] 31, oC (cSl 3 fDPart r2397.1) s2400.v, oBox b_cx #[s2401.v] 22, oBox b_cxx #[(.int .i64 r2397.2.2)] 3, oC (cSl 1 fLI l1996) s1997.v] [rV s2401.v (cSl 1 fI r2397.2.1), rV s2155.v (cSl 1 fI l2152), rV s_a.v (cSl 1 fI a), rV s_b.v (cSl 1 fI b)] _ := hM
            refine wl_nil ?_
            refine sq_n ?_
            refine wc_region ?_
            refine wv rfl (r_move rfl) ?_
            obtain ⟨hg2404, hx⟩ := xg_some hx
            refine wv rfl (r_add rfl rfl hg2404) ?_
            refine wv rfl (r_assign rfl) ?_
            refine wl_nil ?_
            refine bk_n ?_
            refine bk_n ?_
            obtain rfl := Option.some.inj hx
            have hM := hM.fewer (rsC (.head _) (rsC (.tail _ (.tail _ (.head _))) (rsC (.tail _ (.tail _ (.tail _ (.head _)))) rsN)))
            replace hM : St ⟨w, X, S⟩ [oBox b_c #[s2400.v] 31, oC (cSl 3 fDPart r2397.1) s2400.v, oBox b_cx #[s2401.v] 22, oBox b_cxx #[(.int .i64 r2397.2.2)] 3, oC (cSl 1 fLI l1996) s1997.v] [rV s2401.v (cSl 1 fI r2397.2.1), rV s_a.v (cSl 1 fI a), rV s_b.v (cSl 1 fI b)] _ := hM
            exact lp_end (m2160, i2149 + 1, j2150, r2397.1, r2397.2.1, r2397.2.2, s2400, s2401) (Nat.lt_succ_self _) ⟨rfl, rfl, rfl, rfl, rfl, rfl, trivial⟩ ⟨hM, hx2162⟩
          · replace hx := xif_f hc2395 hx
            refine wc_seq ?_
            refine wc_region ?_
            refine wv rfl (r_move rfl) ?_
            obtain ⟨r2407, h2408, hx⟩ := bind_some' hx
            refine w_callv (cap := [(.pointer (some ⟨b_c, 0, none⟩)), (.pointer (some ⟨b_cx, 0, none⟩)), (.pointer (some ⟨b_cxx, 0, none⟩))]) rfl rfl rfl (hM.callR (l := [oBox b_c #[s2154.v] 31, oC (cSl 3 fDPart l2151) s2154.v, oBox b_cx #[s2155.v] 22, oBox b_cxx #[(.int .i64 n2153)] 3]) fun X S oL hS hR => ct_impl_Diff_1 _ X S (0 : Int) (1 : Int) b_c l2151 s2154 b_cx l2152 s2155 b_cxx n2153 hS (hR _ (.head _)) oL h2408) ?_
            rintro _ w2409 ⟨⟨s2410, s2411⟩, rfl, hM⟩
            replace hM : St ⟨w, X, S⟩ [oBox b_c #[s2410.v] 31, oC (cSl 3 fDPart r2407.1) s2410.v, oBox b_cx #[s2411.v] 22, oBox b_cxx #[(.int .i64 r2407.2.2)] 3, oC (cSl 1 fLI l1996) s1997.v] [rV s2411.v (cSl 1 fI r2407.2.1), rV s2155.v (cSl 1 fI l2152), rV s_a.v (cSl 1 fI a), rV s_b.v (cSl 1 fI b)] _ := hM
            refine wl_nil ?_
            refine sq_n ?_
            refine wc_region ?_
            refine wv rfl (r_move rfl) ?_
            obtain ⟨hg2414, hx⟩ := xg_some hx
            refine wv rfl (r_add rfl rfl hg2414) ?_
            refine wv rfl (r_assign rfl) ?_
            refine wl_nil ?_
            refine bk_n ?_
            refine bk_n ?_
            obtain rfl := Option.some.inj hx
            have hM := hM.fewer (rsC (.head _) (rsC (.tail _ (.tail _ (.head _))) (rsC (.tail _ (.tail _ (.tail _ (.head _)))) rsN)))
            replace hM : St ⟨w, X, S⟩ [oBox b_c #[s2410.v] 31, oC (cSl 3 fDPart r2407.1) s2410.v, oBox b_cx #[s2411.v] 22, oBox b_cxx #[(.int .i64 r2407.2.2)] 3, oC (cSl 1 fLI l1996) s1997.v] [rV s2411.v (cSl 1 fI r2407.2.1), rV s_a.v (cSl 1 fI a), rV s_b.v (cSl 1 fI b)] _ := hM
            exact lp_end (m2160, i2149, j2150 + 1, r2407.1, r2407.2.1, r2407.2.2, s2410, s2411) (Nat.lt_succ_self _) ⟨rfl, rfl, rfl, rfl, rfl, rfl, trivial⟩ ⟨hM, hx2162⟩
      · replace hx := xif_f hc2180 hx
        refine wc_exit ?_
        refine sq_exit ?_
        refine lp1_exit ?_
        obtain rfl := Option.some.inj hx
        obtain rfl := Option.some.inj hx2162
        replace hx := hx2148
        try dsimp only [Sum.elim_inl, Sum.elim_inr] at hx
        refine bk_here ?_
        obtain rfl := Option.some.inj hx
        refine fin_end [] trivial ?_
        replace hM := hM.t4
        have hM := hM.fewer (rsC (.head _) rsN)
        exact ⟨(s2154, s2155), rfl, hM.gives⟩

noncomputable def x_impl_Diff (a : List Int) (b : List Int) : Option (List DPart × Bool) :=
  Option.bind (x_impl_diffOk a b) fun r9 => bif !r9 then (some ([], false)) else (Option.bind (x_impl_align a b [] b 0) fun r30 => Option.bind (x_impl_OpNorm r30.1) fun r36 => some (r36, true))
theorem ct_impl_Diff (w : World) (X S : Bs) (a : List Int) (s_a : Sv) (b : List Int) (s_b : Sv) (hS : ∀ b, S b → b < w.heap.size ∧ ¬ X b) (a_a_0 : (cSl 1 fI a).rd S w s_a.v) (a_b_0 : (cSl 1 fI b).rd S w s_b.v) (oL : Sep [] X w) {r : List DPart × Bool} (hx : x_impl_Diff a b = some r) :
    Ret Try.prog 46 [s_a.v, s_b.v] w (fun u w' => ∃ y : Sv, u = .tuple #[y.v, (.bool r.2)] ∧ Gives X S w [oC (cSl 3 fDPart r.1) y.v] [] w') := by
  unfold x_impl_Diff at hx
  refine enter Try.func46 rfl Try.ntmps46 (by kernel_rfl) rfl ?_
  have hM := St.enter oL hS
  have hM := hM.addE (r := rV s_a.v (cSl 1 fI a)) a_a_0
  have hM := hM.addE (r := rV s_b.v (cSl 1 fI b)) a_b_0
  refine wc_seq ?_
  refine wc_region ?_
  refine w_ex rfl (x_box rfl hM ?_); intro b44 w43 hR45 hM
  replace hM : St ⟨w, X, S⟩ [oBox b44 #[s_b.v] 22] [rV s_b.v (cSl 1 fI b), rV s_a.v (cSl 1 fI a)] _ := hM
  refine wv rfl (r_assign rfl) ?_
  refine wv rfl (r_assign rfl) ?_
  refine wl_nil ?_
  refine sq_n ?_
  refine wc_seq ?_
  refine wc_seq ?_
  refine wc_region ?_
  refine wv rfl (r_move rfl) ?_
  refine wv rfl (r_ldB Try.underlying22 rfl rfl hM (.head _) rfl) ?_
  obtain ⟨r51, h52, hx⟩ := bind_some' hx
  refine w_call rfl rfl (hM.callV fun X S oL hS hR hO => ct_impl_diffOk _ X S a s_a b s_b hS (hR _ (.tail _ (.head _))) (hR _ (.head _)) oL h52) ?_
  rintro _ w53 ⟨rfl, hR54⟩
  have hM := hM.call hR54
  refine wv rfl (r_not rfl) ?_
  refine wl_nil ?_
  refine sq_n ?_
  refine wc_cond rfl (fun hc56 => ?_) (fun hc56 => ?_)
  · replace hx := xif_t hc56 hx
    refine wc_seq ?_
    refine wc_region ?_
    refine wv rfl (r_assign rfl) ?_
    refine wv rfl (r_assign rfl) ?_
    refine wl_nil ?_
    refine sq_n ?_
    refine wc_ret ?_
    refine sq_ret ?_
    obtain rfl := Option.some.inj hx
    have hM := hM.nil0 (T := DPart) 3 fDPart
    refine fin_ret [nS.v, (.bool false)] ⟨rfl, rfl, trivial⟩ ?_
    replace hM := hM.t1
    have hM := hM.fewer rsN
    exact ⟨nS, rfl, hM.gives⟩
  · replace hx := xif_f hc56 hx
    refine wc_skip ?_
    refine sq_n ?_
    refine wc_seq ?_
    refine wc_region ?_
    refine w_ex rfl (x_alloc sz31 hM ?_); intro b61 w60 hR62 hM
    replace hM : St ⟨w, X, S⟩ [oBox b61 #[(.slice none 0 0)] 31, oBox b44 #[s_b.v] 22] [rV s_b.v (cSl 1 fI b), rV s_a.v (cSl 1 fI a)] _ := hM
    refine wl_nil ?_
    refine sq_n ?_
    refine wc_seq ?_
    refine wc_region ?_
    refine w_ex rfl (x_alloc sz3 hM ?_); intro b65 w64 hR66 hM
    replace hM : St ⟨w, X, S⟩ [oBox b65 #[(.int .i64 0)] 3, oBox b61 #[(.slice none 0 0)] 31, oBox b44 #[s_b.v] 22] [rV s_b.v (cSl 1 fI b), rV s_a.v (cSl 1 fI a)] _ := hM
    refine w_exu (x_stB #[(.int .i64 0)] sz3 rfl rfl rfl rfl rfl rfl hM ?_); intro w68 hM
    refine wl_nil ?_
    refine sq_n ?_
    refine wc_seq ?_
    refine wc_region ?_
    refine wv rfl (r_move rfl) ?_
    refine wv rfl (r_ldB Try.underlying22 rfl rfl hM (.tail _ (.tail _ (.head _))) rfl) ?_
    refine wv rfl (r_mkfn (caps := [.tmp 6, .tmp 3, .tmp 7]) (vs := [(.pointer (some ⟨b61, 0, none⟩)), (.pointer (some ⟨b44, 0, none⟩)), (.pointer (some ⟨b65, 0, none⟩))]) rfl) ?_
    have hM := hM.nil0 (T := DPart) 3 fDPart
    replace hM := hM.p1.p3.p2.p3
    obtain ⟨r74, h75, hx⟩ := bind_some' hx
    refine w_call rfl rfl (hM.callR (l := [oBox b61 #[nS.v] 31, oC (cSl 3 fDPart ([] : List DPart)) nS.v, oBox b44 #[s_b.v] 22, oBox b65 #[(.int .i64 0)] 3]) fun X S oL hS hR => ct_impl_align _ X S a s_a b s_b b61 [] nS b44 b s_b b65 0 hS (hR _ (.tail _ (.head _))) (hR _ (.head _)) (hR _ (.head _)) oL h75) ?_
    rintro _ w76 ⟨⟨s77, s78⟩, rfl, hM⟩
    replace hM : St ⟨w, X, S⟩ [oBox b61 #[s77.v] 31, oC (cSl 3 fDPart r74.1) s77.v, oBox b44 #[s78.v] 22, oBox b65 #[(.int .i64 r74.2.2)] 3] [rV s78.v (cSl 1 fI r74.2.1), rV s_b.v (cSl 1 fI b), rV s_a.v (cSl 1 fI a)] _ := hM
    refine wl_nil ?_
    refine sq_n ?_
    refine wc_seq ?_
    refine wc_region ?_
    refine wv rfl (r_ldB Try.underlying31 rfl rfl hM (.head _) rfl) ?_
    obtain ⟨r80, h81, hx⟩ := bind_some' hx
    refine w_call rfl rfl (hM.callO (l := []) fun X S oL hS hR hO => ct_impl_OpNorm _ X S r74.1 s77 hS (seeA hO (.tail _ (.head _))) oL h81) ?_
    rintro _ w82 ⟨s83, rfl, hM⟩
    replace hM : St ⟨w, X, S⟩ [oC (cSl 3 fDPart r80) s83.v, oBox b61 #[s77.v] 31, oC (cSl 3 fDPart r74.1) s77.v, oBox b44 #[s78.v] 22, oBox b65 #[(.int .i64 r74.2.2)] 3] [rV s78.v (cSl 1 fI r74.2.1), rV s_b.v (cSl 1 fI b), rV s_a.v (cSl 1 fI a)] _ := hM
    refine wv rfl (r_assign rfl) ?_
    refine wv rfl (r_assign rfl) ?_
    refine wl_nil ?_
    refine sq_n ?_
    refine wc_ret ?_
    obtain rfl := Option.some.inj hx
    refine fin_ret [s83.v, (.bool true)] ⟨rfl, rfl, trivial⟩ ?_
    replace hM := hM.t1
    have hM := hM.fewer rsN
    exact ⟨s83, rfl, hM.gives⟩

noncomputable def x_spec_l22Fit (a : List Int) (b : List Int) : Option Bool :=
  Option.bind (x_spec_TextOk a) fun r3 => Option.bind (bif r3 then (Option.bind (x_spec_TextOk b) fun r16 => some r16) else (some false)) fun c8 => Option.bind (bif c8 then (some (decide ((a.length : Int) ≤ 60))) else (some false)) fun c21 => Option.bind (bif c21 then (some (decide ((b.length : Int) ≤ 60))) else (some false)) fun c30 => some c30
theorem ct_spec_l22Fit (w : World) (X S : Bs) (a : List Int) (s_a : Sv) (b : List Int) (s_b : Sv) (hS : ∀ b, S b → b < w.heap.size ∧ ¬ X b) (a_a_0 : (cSl 1 fI a).rd S w s_a.v) (a_b_0 : (cSl 1 fI b).rd S w s_b.v) (oL : Sep [] X w) {r : Bool} (hx : x_spec_l22Fit a b = some r) :
    Ret Try.prog 129 [s_a.v, s_b.v] w (fun u w' => ∃ _ : Unit, u = (.bool r) ∧ Gives X S w [] [] w') := by
  unfold x_spec_l22Fit at hx
  refine enter Try.func129 rfl Try.ntmps129 (by kernel_rfl) rfl ?_
  have hM := St.enter oL hS
  have hM := hM.addE (r := rV s_a.v (cSl 1 fI a)) a_a_0
  have hM := hM.addE (r := rV s_b.v (cSl 1 fI b)) a_b_0
  refine wc_seq ?_
  refine wc_region ?_
  refine wv rfl (r_assign rfl) ?_
  refine wl_nil ?_
  refine sq_n ?_
  refine wc_seq ?_
  refine wc_region ?_
  refine wv rfl (r_move rfl) ?_
  obtain ⟨r41, h42, hx⟩ := bind_some' hx
  refine w_call rfl rfl (hM.callV fun X S oL hS hR hO => ct_spec_TextOk _ X S a s_a hS (hR _ (.tail _ (.head _))) oL h42) ?_
  rintro _ w43 ⟨rfl, hR44⟩
  have hM := hM.call hR44
  refine wv rfl (r_move rfl) ?_
  obtain ⟨c46, hx, hx53⟩ := bind_some' hx
  refine wl_mid 3 (fun _ : Unit => [(10, (.bool c46)), (0, s_a.v), (1, s_b.v)]) (fun _ w' => St ⟨w, X, S⟩ [] [rV s_b.v (cSl 1 fI b), rV s_a.v (cSl 1 fI a)] w') ?_ ?_
  · rcases Bool.eq_false_or_eq_true r41 with hg47 | hg47
    · replace hx := xif_t hg47 hx
      refine gv rfl hg47 rfl (r_move rfl) ?_
      obtain ⟨r55, h56, hx⟩ := bind_some' hx
      refine gc rfl hg47 rfl rfl (hM.callV fun X S oL hS hR hO => ct_spec_TextOk _ X S b s_b hS (hR _ (.head _)) oL h56) ?_
      rintro _ w57 ⟨rfl, hR58⟩
      have hM := hM.call hR58
      refine wv rfl (p_t rfl hg47 rfl) ?_
      obtain rfl := Option.some.inj hx
      exact mid_nil () ⟨rfl, rfl, rfl, trivial⟩ hM
    · replace hx := xif_f hg47 hx
      refine gs rfl (isB_no hg47) rfl ?_
      refine gs rfl (isB_no hg47) rfl ?_
      refine wv rfl (p_f rfl hg47 rfl) ?_
      obtain rfl := Option.some.inj hx
      exact mid_nil () ⟨rfl, rfl, rfl, trivial⟩ hM
  rintro _ w59 hM
  replace hx := hx53
  refine wv rfl (r_move rfl) ?_
  obtain ⟨c61, hx, hx66⟩ := bind_some' hx
  refine wl_mid 4 (fun _ : Unit => [(15, (.bool c61)), (1, s_b.v)]) (fun _ w' => St ⟨w, X, S⟩ [] [rV s_b.v (cSl 1 fI b), rV s_a.v (cSl 1 fI a)] w') ?_ ?_
  · rcases Bool.eq_false_or_eq_true c46 with hg62 | hg62
    · replace hx := xif_t hg62 hx
      refine gv rfl hg62 rfl (r_move rfl) ?_
      refine gv rfl hg62 rfl (r_lenC Try.underlying22 rfl (hM.seeR (.tail _ (.head _)))) ?_
      refine gv rfl hg62 rfl (r_leq rfl rfl) ?_
      refine wv rfl (p_t rfl hg62 rfl) ?_
      obtain rfl := Option.some.inj hx
      exact mid_nil () ⟨rfl, rfl, trivial⟩ hM
    · replace hx := xif_f hg62 hx
      refine gs rfl (isB_no hg62) rfl ?_
      refine gs rfl (isB_no hg62) rfl ?_
      refine gs rfl (isB_no hg62) rfl ?_
      refine wv rfl (p_f rfl hg62 rfl) ?_
      obtain rfl := Option.some.inj hx
      exact mid_nil () ⟨rfl, rfl, trivial⟩ hM
  rintro _ w70 hM
  replace hx := hx66
  refine wv rfl (r_move rfl) ?_
  obtain ⟨c72, hx, hx77⟩ := bind_some' hx
  refine wl_mid 4 (fun _ : Unit => [(20, (.bool c72))]) (fun _ w' => St ⟨w, X, S⟩ [] [rV s_b.v (cSl 1 fI b), rV s_a.v (cSl 1 fI a)] w') ?_ ?_
  · rcases Bool.eq_false_or_eq_true c61 with hg73 | hg73
    · replace hx := xif_t hg73 hx
      refine gv rfl hg73 rfl (r_move rfl) ?_
      refine gv rfl hg73 rfl (r_lenC Try.underlying22 rfl (hM.seeR (.head _))) ?_
      refine gv rfl hg73 rfl (r_leq rfl rfl) ?_
      refine wv rfl (p_t rfl hg73 rfl) ?_
      obtain rfl := Option.some.inj hx
      exact mid_nil () ⟨rfl, trivial⟩ hM
    · replace hx := xif_f hg73 hx
      refine gs rfl (isB_no hg73) rfl ?_
      refine gs rfl (isB_no hg73) rfl ?_
      refine gs rfl (isB_no hg73) rfl ?_
      refine wv rfl (p_f rfl hg73 rfl) ?_
      obtain rfl := Option.some.inj hx
      exact mid_nil () ⟨rfl, trivial⟩ hM
  rintro _ w81 hM
  replace hx := hx77
  refine wv rfl (r_assign rfl) ?_
  refine wl_nil ?_
  refine sq_n ?_
  refine wc_ret ?_
  obtain rfl := Option.some.inj hx
  refine fin_ret [(.bool c72)] ⟨rfl, trivial⟩ ?_
  replace hM := hM.t0
  have hM := hM.fewer rsN
  exact ⟨(), rfl, hM.gives⟩

noncomputable def x_spec_l22Table_b0 (a : List Int) (b : List Int) (t8 : List (List Int)) (i9 : Int) : Option (Lr (List (List Int) × Int) (List (List Int))) :=
  bif decide (i9 ≤ (a.length : Int)) then (xg (inI ((b.length : Int) + 1)) <| xg (0 ≤ ((b.length : Int) + 1) ∧ ((b.length : Int) + 1) ≤ 1099511627776) <| xg (t8.length < 1099511627776) <| xg (inI (i9 + 1)) <| some (Lr.go (t8 ++ [List.replicate (((b.length : Int) + 1).toNat) 0], i9 + 1))) else (some (Lr.out t8))
noncomputable def x_spec_l22Table_f0 (a : List Int) (b : List Int) (s60 : List (List Int) × Int) : Option (Lr (List (List Int) × Int) (List (List Int))) := x_spec_l22Table_b0 a b s60.1 s60.2
noncomputable def x_spec_l22Table_b2 (i607 : Int) (a : List Int) (b : List Int) (k1328 : Int) (l1329 : List (List Int)) : Option (Lr (Int × List (List Int)) (List (List Int))) :=
  bif decide ((0 : Int) ≤ k1328) then (xg (0 ≤ i607 ∧ i607 < (a.length : Int)) <| xg (0 ≤ k1328 ∧ k1328 < (b.length : Int)) <| bif decide ((el a i607.toNat) = (el b k1328.toNat)) then (xg (0 ≤ i607 ∧ i607 < (l1329.length : Int)) <| xg (inI (i607 + 1)) <| xg (0 ≤ (i607 + 1) ∧ (i607 + 1) < (l1329.length : Int)) <| xg (inI (k1328 + 1)) <| xg (0 ≤ (k1328 + 1) ∧ (k1328 + 1) < ((el l1329 ((i607 + 1).toNat)).length : Int)) <| xg (inI ((el (el l1329 ((i607 + 1).toNat)) ((k1328 + 1).toNat)) + 1)) <| xg (0 ≤ k1328 ∧ k1328 < ((el l1329 i607.toNat).length : Int)) <| xg (inI (k1328 - 1)) <| some (Lr.go (k1328 - 1, l1329.set i607.toNat ((el l1329 i607.toNat).set k1328.toNat ((el (el l1329 ((i607 + 1).toNat)) ((k1328 + 1).toNat)) + 1))))) else (xg (inI (i607 + 1)) <| xg (0 ≤ (i607 + 1) ∧ (i607 + 1) < (l1329.length : Int)) <| xg (0 ≤ k1328 ∧ k1328 < ((el l1329 ((i607 + 1).toNat)).length : Int)) <| xg (0 ≤ i607 ∧ i607 < (l1329.length : Int)) <| xg (inI (k1328 + 1)) <| xg (0 ≤ (k1328 + 1) ∧ (k1328 + 1) < ((el l1329 i607.toNat).length : Int)) <| bif decide ((el (el l1329 i607.toNat) ((k1328 + 1).toNat)) ≤ (el (el l1329 ((i607 + 1).toNat)) k1328.toNat)) then (xg (0 ≤ i607 ∧ i607 < (l1329.length : Int)) <| xg (inI (i607 + 1)) <| xg (0 ≤ (i607 + 1) ∧ (i607 + 1) < (l1329.length : Int)) <| xg (0 ≤ k1328 ∧ k1328 < ((el l1329 ((i607 + 1).toNat)).length : Int)) <| xg (0 ≤ k1328 ∧ k1328 < ((el l1329 i607.toNat).length : Int)) <| xg (inI (k1328 - 1)) <| some (Lr.go (k1328 - 1, l1329.set i607.toNat ((el l1329 i607.toNat).set k1328.toNat (el (el l1329 ((i607 + 1).toNat)) k1328.toNat))))) else (xg (0 ≤ i607 ∧ i607 < (l1329.length : Int)) <| xg (0 ≤ i607 ∧ i607 < (l1329.length : Int)) <| xg (inI (k1328 + 1)) <| xg (0 ≤ (k1328 + 1) ∧ (k1328 + 1) < ((el l1329 i607.toNat).length : Int)) <| xg (0 ≤ k1328 ∧ k1328 < ((el l1329 i607.toNat).length : Int)) <| xg (inI (k1328 - 1)) <| some (Lr.go (k1328 - 1, l1329.set i607.toNat ((el l1329 i607.toNat).set k1328.toNat (el (el l1329 i607.toNat) ((k1328 + 1).toNat)))))))) else (some (Lr.out l1329))
noncomputable def x_spec_l22Table_f2 (i607 : Int) (a : List Int) (b : List Int) (s1677 : Int × List (List Int)) : Option (Lr (Int × List (List Int)) (List (List Int))) := x_spec_l22Table_b2 i607 a b s1677.1 s1677.2
noncomputable def x_spec_l22Table_b1 (b : List Int) (a : List Int) (i607 : Int) (l608 : List (List Int)) : Option (Lr (Int × List (List Int)) (List (List Int))) :=
  bif decide ((0 : Int) ≤ i607) then (xg (inI ((b.length : Int) - 1)) <| Option.bind (iter (x_spec_l22Table_f2 i607 a b) ((b.length : Int) - 1, l608)) fun (y1678 : List (List Int)) => xg (inI (i607 - 1)) <| some (Lr.go (i607 - 1, y1678))) else (some (Lr.out l608))
noncomputable def x_spec_l22Table_f1 (b : List Int) (a : List Int) (s1684 : Int × List (List Int)) : Option (Lr (Int × List (List Int)) (List (List Int))) := x_spec_l22Table_b1 b a s1684.1 s1684.2
noncomputable def x_spec_l22Table (a : List Int) (b : List Int) : Option (List (List Int)) :=
  Option.bind (iter (x_spec_l22Table_f0 a b) ([], 0)) fun (y61 : List (List Int)) => xg (inI ((a.length : Int) - 1)) <| Option.bind (iter (x_spec_l22Table_f1 b a) ((a.length : Int) - 1, y61)) fun (y1685 : List (List Int)) => some y1685
theorem ct_spec_l22Table (w : World) (X S : Bs) (a : List Int) (s_a : Sv) (b : List Int) (s_b : Sv) (hS : ∀ b, S b → b < w.heap.size ∧ ¬ X b) (a_a_0 : (cSl 1 fI a).rd S w s_a.v) (a_b_0 : (cSl 1 fI b).rd S w s_b.v) (oL : Sep [] X w) {r : List (List Int)} (hx : x_spec_l22Table a b = some r) :
    Ret Try.prog 130 [s_a.v, s_b.v] w (fun u w' => ∃ y : Sv, u = y.v ∧ Gives X S w [oC (cSl 1 fLI r) y.v] [] w') := by
  unfold x_spec_l22Table at hx
  refine enter Try.func130 rfl Try.ntmps130 (by kernel_rfl) rfl ?_
  have hM := St.enter oL hS
  have hM := hM.addE (r := rV s_a.v (cSl 1 fI a)) a_a_0
  have hM := hM.addE (r := rV s_b.v (cSl 1 fI b)) a_b_0
  refine wc_seq ?_
  refine wc_region ?_
  refine wv rfl (r_assign rfl) ?_
  refine wl_nil ?_
  refine sq_n ?_
  refine wc_seq ?_
  refine wc_region ?_
  refine w_ex rfl (x_empty (f := fLI) Try.underlying145 sz22 (fun _ => rfl) hM ?_); intro s1691 w1690 hR1692 hM
  refine wv rfl (r_assign rfl) ?_
  refine wl_nil ?_
  refine sq_n ?_
  refine wc_seq ?_
  refine wc_seq ?_
  refine wc_region ?_
  refine wv rfl (r_assign rfl) ?_
  refine wl_nil ?_
  refine sq_n ?_
  refine wc_block ?_
  obtain ⟨y1696, hx, hx1697⟩ := bind_some' hx
  have hM := hM.fewer (rsC (.tail _ (.head _)) (rsC (.head _) rsN))
  replace hM : St ⟨w, X, S⟩ [oC (cSl 1 fLI ([] : List (List Int))) s1691.v] [rV s_a.v (cSl 1 fI a), rV s_b.v (cSl 1 fI b)] _ := hM
  obtain ⟨m1704, hx⟩ := iter_run hx
  refine wc_loop (un fun (m1702 : Nat) => un fun (t1698 : List (List Int)) => un fun (i1699 : Int) => fun (s1701 : Sv) => [(0, s_a.v), (1, s_b.v), (5, s1701.v), (6, (.int .i64 i1699))]) (un fun (m1702 : Nat) => un fun (t1698 : List (List Int)) => un fun (i1699 : Int) => fun (s1701 : Sv) w' => St ⟨w, X, S⟩ [oC (cSl 1 fLI t1698) s1701.v] [rV s_a.v (cSl 1 fI a), rV s_b.v (cSl 1 fI b)] w' ∧ iterN _ m1702 (t1698, i1699) = some y1696) (fun p => p.1) (m1704, [], 0, s1691) ⟨rfl, rfl, rfl, rfl, trivial⟩ ⟨hM, hx⟩ ?_
  rintro ⟨m1702, t1698, i1699, s1701⟩ w1705 ⟨hM, hx⟩
  obtain ⟨m1706, z1707, rfl, hx, hx1708⟩ := iterN_step hx
  unfold x_spec_l22Table_f0 x_spec_l22Table_b0 at hx
  try dsimp only at hx
  refine wc_seq ?_
  refine wc_seq ?_
  refine wc_region ?_
  refine wv rfl (r_move rfl) ?_
  refine wv rfl (r_move rfl) ?_
  refine wv rfl (r_lenC Try.underlying22 rfl (hM.seeR (.head _))) ?_
  refine wv rfl (r_leq rfl rfl) ?_
  refine wl_nil ?_
  refine sq_n ?_
  refine wc_cond rfl (fun hc1713 => ?_) (fun hc1713 => ?_)
  · replace hx := xif_t hc1713 hx
    refine wc_skip ?_
    refine sq_n ?_
    refine wc_seq ?_
    refine wc_block ?_
    refine wc_region ?_
    refine wv rfl (r_move rfl) ?_
    refine wv rfl (r_move rfl) ?_
    refine wv rfl (r_lenC Try.underlying22 rfl (hM.seeR (.tail _ (.head _)))) ?_
    obtain ⟨hg1718, hx⟩ := xg_some hx
    refine wv rfl (r_add rfl rfl hg1718) ?_
    obtain ⟨hg1721, hx⟩ := xg_some hx
    have hk1722 : (b.length : Int) + 1 = (((b.length : Int) + 1).toNat : Int) := by omega
    refine w_ex rfl (x_make (f := fI) (k := (((b.length : Int) + 1).toNat)) 0 Try.underlying22 sz3 (fun _ => rfl) (fun _ => zP (pV _ rfl) zN) (by rw [← hk1722]; rfl) (by omega) rfl hM ?_); intro s1720 w1719 hR1723 hM
    replace hM := hM.p1
    obtain ⟨hg1728, hx⟩ := xg_some hx
    refine w_push (f := fLI) (List.replicate (((b.length : Int) + 1).toNat) 0) rfl rfl Try.underlying145 sz22 rfl rfl rfl rfl (fun _ => rfl) hM (fun _ => zO zN) rfl hg1728 rfl ?_; intro u1726 s1727 w1725 hM
    refine wv rfl (r_assign rfl) ?_
    refine wl_nil ?_
    refine bk_n ?_
    refine sq_n ?_
    refine wc_region ?_
    refine wv rfl (r_move rfl) ?_
    obtain ⟨hg1732, hx⟩ := xg_some hx
    refine wv rfl (r_add rfl rfl hg1732) ?_
    refine wv rfl (r_assign rfl) ?_
    refine wl_nil ?_
    obtain rfl := Option.some.inj hx
    exact lp_end (m1706, t1698 ++ [List.replicate (((b.length : Int) + 1).toNat) 0], i1699 + 1, s1727) (Nat.lt_succ_self _) ⟨rfl, rfl, rfl, rfl, trivial⟩ ⟨hM, hx1708⟩
  · replace hx := xif_f hc1713 hx
    refine wc_exit ?_
    refine sq_exit ?_
    refine lp1_exit ?_
    obtain rfl := Option.some.inj hx
    obtain rfl := Option.some.inj hx1708
    replace hx := hx1697
    try dsimp only [Sum.elim_inl, Sum.elim_inr] at hx
    refine bk_here ?_
    refine sq_n ?_
    refine wc_seq ?_
    refine wc_seq ?_
    refine wc_region ?_
    refine wv rfl (r_move rfl) ?_
    refine wv rfl (r_lenC Try.underlying22 rfl (hM.seeR (.head _))) ?_
    obtain ⟨hg1737, hx⟩ := xg_some hx
    refine wv rfl (r_sub rfl rfl hg1737) ?_
    refine wv rfl (r_assign rfl) ?_
    refine wl_nil ?_
    refine sq_n ?_
    refine wc_block ?_
    obtain ⟨y1739, hx, hx1740⟩ := bind_some' hx
    obtain ⟨m1746, hx⟩ := iter_run hx
    refine wc_loop (un fun (m1744 : Nat) => un fun (i1741 : Int) => un fun (l1742 : List (List Int)) => fun (s1743 : Sv) => [(0, s_a.v), (1, s_b.v), (5, s1743.v), (7, (.int .i64 i1741))]) (un fun (m1744 : Nat) => un fun (i1741 : Int) => un fun (l1742 : List (List Int)) => fun (s1743 : Sv) w' => St ⟨w, X, S⟩ [oC (cSl 1 fLI l1742) s1743.v] [rV s_a.v (cSl 1 fI a), rV s_b.v (cSl 1 fI b)] w' ∧ iterN _ m1744 (i1741, l1742) = some y1739) (fun p => p.1) (m1746, (a.length : Int) - 1, t1698, s1701) ⟨rfl, rfl, rfl, rfl, trivial⟩ ⟨hM, hx⟩ ?_
    rintro ⟨m1744, i1741, l1742, s1743⟩ w1747 ⟨hM, hx⟩
    obtain ⟨m1748, z1749, rfl, hx, hx1750⟩ := iterN_step hx
    unfold x_spec_l22Table_f1 x_spec_l22Table_b1 at hx
    try dsimp only at hx
    refine wc_seq ?_
    refine wc_seq ?_
    refine wc_region ?_
    refine wv rfl (r_move rfl) ?_
    refine wv rfl (r_geq rfl rfl) ?_
    refine wl_nil ?_
    refine sq_n ?_
    refine wc_cond rfl (fun hc1753 => ?_) (fun hc1753 => ?_)
    · replace hx := xif_t hc1753 hx
      refine wc_skip ?_
      refine sq_n ?_
      refine wc_seq ?_
      refine wc_block ?_
      refine wc_seq ?_
      refine wc_region ?_
      refine wv rfl (r_move rfl) ?_
      refine wv rfl (r_lenC Try.underlying22 rfl (hM.seeR (.tail _ (.head _)))) ?_
      obtain ⟨hg1757, hx⟩ := xg_some hx
      refine wv rfl (r_sub rfl rfl hg1757) ?_
      refine wv rfl (r_assign rfl) ?_
      refine wl_nil ?_
      refine sq_n ?_
      refine wc_block ?_
      obtain ⟨y1759, hx, hx1760⟩ := bind_some' hx
      obtain ⟨m1765, hx⟩ := iter_run hx
      refine wc_loop (un fun (m1763 : Nat) => un fun (k1761 : Int) => fun (l1762 : List (List Int)) => [(0, s_a.v), (1, s_b.v), (5, s1743.v), (7, (.int .i64 i1741)), (8, (.int .i64 k1761))]) (un fun (m1763 : Nat) => un fun (k1761 : Int) => fun (l1762 : List (List Int)) w' => St ⟨w, X, S⟩ [oC (cSl 1 fLI l1762) s1743.v] [rV s_a.v (cSl 1 fI a), rV s_b.v (cSl 1 fI b)] w' ∧ iterN _ m1763 (k1761, l1762) = some y1759) (fun p => p.1) (m1765, (b.length : Int) - 1, l1742) ⟨rfl, rfl, rfl, rfl, rfl, trivial⟩ ⟨hM, hx⟩ ?_
      rintro ⟨m1763, k1761, l1762⟩ w1766 ⟨hM, hx⟩
      obtain ⟨m1767, z1768, rfl, hx, hx1769⟩ := iterN_step hx
      unfold x_spec_l22Table_f2 x_spec_l22Table_b2 at hx
      try dsimp only at hx
      refine wc_seq ?_
      refine wc_seq ?_
      refine wc_region ?_
      refine wv rfl (r_move rfl) ?_
      refine wv rfl (r_geq rfl rfl) ?_
      refine wl_nil ?_
      refine sq_n ?_
      refine wc_cond rfl (fun hc1772 => ?_) (fun hc1772 => ?_)
      · replace hx := xif_t hc1772 hx
        refine wc_skip ?_
        refine sq_n ?_
        refine wc_seq ?_
        refine wc_block ?_
        refine wc_block ?_
        refine wc_seq ?_
        refine wc_draw [(0, 0), (1, 0), (2, 0), (3, 0), (4, 0), (5, 0), (6, 0), (7, 0), (8, 0), (9, 0)] Try_mixed (by kernel_rfl) rfl (by kernel_rfl) rfl ?_
        refine ov rfl (fun w' h' => r_move rfl) ?_
        refine ov rfl (fun w' h' => r_move rfl) ?_
        obtain ⟨hg1777, hx⟩ := xg_some hx
        have hi1776 : i1741.toNat < a.length := by omega
        refine ov rfl (fun w' h' => r_ixC Try.underlying22 sz3 rfl rfl ((hM.call h').seeR (.head _)) hg1777) ?_
        refine ov rfl (fun w' h' => r_ld Try.underlying3 rfl rfl (Cs.get (i := i1741.toNat) (j := 0) ((hM.call h').seeR (.head _)) (fun _ => rfl) hi1776 rfl)) ?_
        refine ov rfl (fun w' h' => r_move rfl) ?_
        refine ov rfl (fun w' h' => r_move rfl) ?_
        obtain ⟨hg1783, hx⟩ := xg_some hx
        have hi1782 : k1761.toNat < b.length := by omega
        refine ov rfl (fun w' h' => r_ixC Try.underlying22 sz3 rfl rfl ((hM.call h').seeR (.tail _ (.head _))) hg1783) ?_
        refine ov rfl (fun w' h' => r_ld Try.underlying3 rfl rfl (Cs.get (i := k1761.toNat) (j := 0) ((hM.call h').seeR (.tail _ (.head _))) (fun _ => rfl) hi1782 rfl)) ?_
        refine ov rfl (fun w' h' => r_eql rfl rfl) ?_
        refine ov rfl (fun w' h' => r_assign rfl) ?_
        refine o_nil fun w1787 hw1788 => ?_
        have hM := hM.call hw1788
        refine sq_n ?_
        refine wc_cond rfl (fun hc1789 => ?_) (fun hc1789 => ?_)
        · replace hx := xif_t hc1789 hx
          refine wc_draw [(0, 0), (1, 0), (2, 0), (3, 0), (4, 0), (5, 0), (6, 0), (7, 0), (8, 0), (9, 0), (10, 0), (11, 0), (12, 0), (13, 0), (14, 0), (15, 0), (16, 2)] Try_mixed (by kernel_rfl) rfl (by kernel_rfl) rfl ?_
          refine ov rfl (fun w' h' => r_move rfl) ?_
          refine ov rfl (fun w' h' => r_move rfl) ?_
          obtain ⟨hg1794, hx⟩ := xg_some hx
          have hi1793 : i1741.toNat < l1762.length := by omega
          refine ov rfl (fun w' h' => r_ixC Try.underlying145 sz22 rfl rfl ((hM.call h').seeO (.head _)) hg1794) ?_
          obtain ⟨s1796, hM, hc1797⟩ := hM.leafO (i := i1741.toNat) (j := 0) (fun _ => rfl) hi1793 rfl
          refine ov rfl (fun w' h' => r_ld Try.underlying22 rfl rfl (hc1797 w' h')) ?_
          refine ov rfl (fun w' h' => r_move rfl) ?_
          refine ov rfl (fun w' h' => r_move rfl) ?_
          refine ov rfl (fun w' h' => r_move rfl) ?_
          obtain ⟨hg1802, hx⟩ := xg_some hx
          refine ov rfl (fun w' h' => r_add rfl rfl hg1802) ?_
          obtain ⟨hg1805, hx⟩ := xg_some hx
          have hi1804 : ((i1741 + 1).toNat) < l1762.length := by omega
          refine ov rfl (fun w' h' => r_ixC Try.underlying145 sz22 rfl rfl ((hM.call h').seeOV (.head _)) hg1805) ?_
          obtain ⟨s1807, hM, hc1808⟩ := hM.leafV (i := ((i1741 + 1).toNat)) (j := 0) (fun _ => rfl) hi1804 rfl
          refine ov rfl (fun w' h' => r_ld Try.underlying22 rfl rfl (hc1808 w' h')) ?_
          refine ov rfl (fun w' h' => r_move rfl) ?_
          obtain ⟨hg1811, hx⟩ := xg_some hx
          refine ov rfl (fun w' h' => r_add rfl rfl hg1811) ?_
          obtain ⟨hg1814, hx⟩ := xg_some hx
          have hi1813 : ((k1761 + 1).toNat) < (el l1762 ((i1741 + 1).toNat)).length := by omega
          refine ov rfl (fun w' h' => r_ixC Try.underlying22 sz3 rfl rfl ((hM.call h').seeV (.head _) (.head _)) hg1814) ?_
          refine ov rfl (fun w' h' => r_ld Try.underlying3 rfl rfl (Cs.get (i := ((k1761 + 1).toNat)) (j := 0) ((hM.call h').seeV (.head _) (.head _)) (fun _ => rfl) hi1813 rfl)) ?_
          obtain ⟨hg1817, hx⟩ := xg_some hx
          refine ov rfl (fun w' h' => r_add rfl rfl hg1817) ?_
          obtain ⟨hg1820, hx⟩ := xg_some hx
          have hi1819 : k1761.toNat < (el l1762 i1741.toNat).length := by omega
          refine ov rfl (fun w' h' => r_ixC Try.underlying22 sz3 rfl rfl ((hM.call h').seeV (.head _) (.tail _ (.tail _ (.head _)))) hg1820) ?_
          have hM := hM.open (i := i1741.toNat) (j := 0) (.tail _ (.tail _ (.tail _ (.head _)))) (fun _ => rfl) hi1793 rfl
          refine o_exu fun w1825 h1826 => ?_
          have hM := hM.call h1826
          refine x_stE (f := fI) (k := 1) (L := (el l1762 i1741.toNat)) (i := k1761.toNat) (j := 0) ((el (el l1762 ((i1741 + 1).toNat)) ((k1761 + 1).toNat)) + 1) [cI ((el (el l1762 ((i1741 + 1).toNat)) ((k1761 + 1).toNat)) + 1)] sz3 (fun _ => rfl) rfl rfl hi1819 rfl rfl rfl rfl rfl (fun _ => zP (pV _ rfl) zN) hM ?_; intro w1821 hM
          have hM := hM.close (i := i1741.toNat) (j := 0) ((el l1762 i1741.toNat).set k1761.toNat ((el (el l1762 ((i1741 + 1).toNat)) ((k1761 + 1).toNat)) + 1)) (fun _ => rfl) hi1793 rfl rfl
          refine o_nil fun w1827 hw1828 => ?_
          have hM := hM.call hw1828
          refine bk_n ?_
          refine bk_n ?_
          refine sq_n ?_
          refine wc_region ?_
          refine wv rfl (r_move rfl) ?_
          obtain ⟨hg1831, hx⟩ := xg_some hx
          refine wv rfl (r_sub rfl rfl hg1831) ?_
          refine wv rfl (r_assign rfl) ?_
          refine wl_nil ?_
          obtain rfl := Option.some.inj hx
          exact lp_end (m1767, k1761 - 1, l1762.set i1741.toNat ((el l1762 i1741.toNat).set k1761.toNat ((el (el l1762 ((i1741 + 1).toNat)) ((k1761 + 1).toNat)) + 1))) (Nat.lt_succ_self _) ⟨rfl, rfl, rfl, rfl, rfl, trivial⟩ ⟨hM, hx1769⟩
        · replace hx := xif_f hc1789 hx
          refine wc_seq ?_
          refine wc_draw [(0, 0), (1, 0), (2, 0), (3, 0), (4, 0), (5, 0), (6, 0), (7, 0), (8, 0), (9, 0), (10, 0), (11, 0), (12, 0), (13, 0), (14, 0), (15, 0), (16, 0), (17, 0)] Try_mixed (by kernel_rfl) rfl (by kernel_rfl) rfl ?_
          refine ov rfl (fun w' h' => r_move rfl) ?_
          refine ov rfl (fun w' h' => r_move rfl) ?_
          obtain ⟨hg1836, hx⟩ := xg_some hx
          refine ov rfl (fun w' h' => r_add rfl rfl hg1836) ?_
          obtain ⟨hg1839, hx⟩ := xg_some hx
          have hi1838 : ((i1741 + 1).toNat) < l1762.length := by omega
          refine ov rfl (fun w' h' => r_ixC Try.underlying145 sz22 rfl rfl ((hM.call h').seeO (.head _)) hg1839) ?_
          obtain ⟨s1841, hM, hc1842⟩ := hM.leafO (i := ((i1741 + 1).toNat)) (j := 0) (fun _ => rfl) hi1838 rfl
          refine ov rfl (fun w' h' => r_ld Try.underlying22 rfl rfl (hc1842 w' h')) ?_
          refine ov rfl (fun w' h' => r_move rfl) ?_
          obtain ⟨hg1846, hx⟩ := xg_some hx
          have hi1845 : k1761.toNat < (el l1762 ((i1741 + 1).toNat)).length := by omega
          refine ov rfl (fun w' h' => r_ixC Try.underlying22 sz3 rfl rfl ((hM.call h').seeV (.head _) (.head _)) hg1846) ?_
          refine ov rfl (fun w' h' => r_ld Try.underlying3 rfl rfl (Cs.get (i := k1761.toNat) (j := 0) ((hM.call h').seeV (.head _) (.head _)) (fun _ => rfl) hi1845 rfl)) ?_
          refine ov rfl (fun w' h' => r_move rfl) ?_
          refine ov rfl (fun w' h' => r_move rfl) ?_
          obtain ⟨hg1852, hx⟩ := xg_some hx
          have hi1851 : i1741.toNat < l1762.length := by omega
          refine ov rfl (fun w' h' => r_ixC Try.underlying145 sz22 rfl rfl ((hM.call h').seeOV (.head _)) hg1852) ?_
          obtain ⟨s1854, hM, hc1855⟩ := hM.leafV (i := i1741.toNat) (j := 0) (fun _ => rfl) hi1851 rfl
          refine ov rfl (fun w' h' => r_ld Try.underlying22 rfl rfl (hc1855 w' h')) ?_
          refine ov rfl (fun w' h' => r_move rfl) ?_
          obtain ⟨hg1858, hx⟩ := xg_some hx
          refine ov rfl (fun w' h' => r_add rfl rfl hg1858) ?_
          obtain ⟨hg1861, hx⟩ := xg_some hx
          have hi1860 : ((k1761 + 1).toNat) < (el l1762 i1741.toNat).length := by omega
          refine ov rfl (fun w' h' => r_ixC Try.underlying22 sz3 rfl rfl ((hM.call h').seeV (.head _) (.head _)) hg1861) ?_
          refine ov rfl (fun w' h' => r_ld Try.underlying3 rfl rfl (Cs.get (i := ((k1761 + 1).toNat)) (j := 0) ((hM.call h').seeV (.head _) (.head _)) (fun _ => rfl) hi1860 rfl)) ?_
          refine ov rfl (fun w' h' => r_geq rfl rfl) ?_
          refine ov rfl (fun w' h' => r_assign rfl) ?_
          refine o_nil fun w1865 hw1866 => ?_
          have hM := hM.call hw1866
          refine sq_n ?_
          refine wc_cond rfl (fun hc1867 => ?_) (fun hc1867 => ?_)
          · replace hx := xif_t hc1867 hx
            refine wc_draw [(0, 0), (1, 0), (2, 0), (3, 0), (4, 0), (5, 0), (6, 0), (7, 0), (8, 0), (9, 0), (10, 0), (11, 0), (12, 0), (13, 0), (14, 2)] Try_mixed (by kernel_rfl) rfl (by kernel_rfl) rfl ?_
            refine ov rfl (fun w' h' => r_move rfl) ?_
            refine ov rfl (fun w' h' => r_move rfl) ?_
            obtain ⟨hg1872, hx⟩ := xg_some hx
            have hi1871 : i1741.toNat < l1762.length := by omega
            refine ov rfl (fun w' h' => r_ixC Try.underlying145 sz22 rfl rfl ((hM.call h').seeOV (.head _)) hg1872) ?_
            obtain ⟨s1874, hM, hc1875⟩ := hM.leafV (i := i1741.toNat) (j := 0) (fun _ => rfl) hi1871 rfl
            refine ov rfl (fun w' h' => r_ld Try.underlying22 rfl rfl (hc1875 w' h')) ?_
            refine ov rfl (fun w' h' => r_move rfl) ?_
            refine ov rfl (fun w' h' => r_move rfl) ?_
            refine ov rfl (fun w' h' => r_move rfl) ?_
            obtain ⟨hg1880, hx⟩ := xg_some hx
            refine ov rfl (fun w' h' => r_add rfl rfl hg1880) ?_
            obtain ⟨hg1883, hx⟩ := xg_some hx
            have hi1882 : ((i1741 + 1).toNat) < l1762.length := by omega
            refine ov rfl (fun w' h' => r_ixC Try.underlying145 sz22 rfl rfl ((hM.call h').seeOV (.head _)) hg1883) ?_
            obtain ⟨s1885, hM, hc1886⟩ := hM.leafV (i := ((i1741 + 1).toNat)) (j := 0) (fun _ => rfl) hi1882 rfl
            refine ov rfl (fun w' h' => r_ld Try.underlying22 rfl rfl (hc1886 w' h')) ?_
            refine ov rfl (fun w' h' => r_move rfl) ?_
            obtain ⟨hg1890, hx⟩ := xg_some hx
            have hi1889 : k1761.toNat < (el l1762 ((i1741 + 1).toNat)).length := by omega
            refine ov rfl (fun w' h' => r_ixC Try.underlying22 sz3 rfl rfl ((hM.call h').seeV (.head _) (.head _)) hg1890) ?_
            refine ov rfl (fun w' h' => r_ld Try.underlying3 rfl rfl (Cs.get (i := k1761.toNat) (j := 0) ((hM.call h').seeV (.head _) (.head _)) (fun _ => rfl) hi1889 rfl)) ?_
            obtain ⟨hg1894, hx⟩ := xg_some hx
            have hi1893 : k1761.toNat < (el l1762 i1741.toNat).length := by omega
            refine ov rfl (fun w' h' => r_ixC Try.underlying22 sz3 rfl rfl ((hM.call h').seeV (.head _) (.tail _ (.tail _ (.head _)))) hg1894) ?_
            have hM := hM.open (i := i1741.toNat) (j := 0) (.tail _ (.tail _ (.tail _ (.head _)))) (fun _ => rfl) hi1871 rfl
            refine o_exu fun w1899 h1900 => ?_
            have hM := hM.call h1900
            refine x_stE (f := fI) (k := 1) (L := (el l1762 i1741.toNat)) (i := k1761.toNat) (j := 0) (el (el l1762 ((i1741 + 1).toNat)) k1761.toNat) [cI (el (el l1762 ((i1741 + 1).toNat)) k1761.toNat)] sz3 (fun _ => rfl) rfl rfl hi1893 rfl rfl rfl rfl rfl (fun _ => zP (pV _ rfl) zN) hM ?_; intro w1895 hM
            have hM := hM.close (i := i1741.toNat) (j := 0) ((el l1762 i1741.toNat).set k1761.toNat (el (el l1762 ((i1741 + 1).toNat)) k1761.toNat)) (fun _ => rfl) hi1871 rfl rfl
            refine o_nil fun w1901 hw1902 => ?_
            have hM := hM.call hw1902
            refine bk_n ?_
            refine bk_n ?_
            refine sq_n ?_
            refine wc_region ?_
            refine wv rfl (r_move rfl) ?_
            obtain ⟨hg1905, hx⟩ := xg_some hx
            refine wv rfl (r_sub rfl rfl hg1905) ?_
            refine wv rfl (r_assign rfl) ?_
            refine wl_nil ?_
            obtain rfl := Option.some.inj hx
            exact lp_end (m1767, k1761 - 1, l1762.set i1741.toNat ((el l1762 i1741.toNat).set k1761.toNat (el (el l1762 ((i1741 + 1).toNat)) k1761.toNat))) (Nat.lt_succ_self _) ⟨rfl, rfl, rfl, rfl, rfl, trivial⟩ ⟨hM, hx1769⟩
          · replace hx := xif_f hc1867 hx
            refine wc_draw [(0, 0), (1, 0), (2, 0), (3, 0), (4, 0), (5, 0), (6, 0), (7, 0), (8, 0), (9, 0), (10, 0), (11, 0), (12, 0), (13, 0), (14, 2)] Try_mixed (by kernel_rfl) rfl (by kernel_rfl) rfl ?_
            refine ov rfl (fun w' h' => r_move rfl) ?_
            refine ov rfl (fun w' h' => r_move rfl) ?_
            obtain ⟨hg1911, hx⟩ := xg_some hx
            have hi1910 : i1741.toNat < l1762.length := by omega
            refine ov rfl (fun w' h' => r_ixC Try.underlying145 sz22 rfl rfl ((hM.call h').seeOV (.head _)) hg1911) ?_
            obtain ⟨s1913, hM, hc1914⟩ := hM.leafV (i := i1741.toNat) (j := 0) (fun _ => rfl) hi1910 rfl
            refine ov rfl (fun w' h' => r_ld Try.underlying22 rfl rfl (hc1914 w' h')) ?_
            refine ov rfl (fun w' h' => r_move rfl) ?_
            refine ov rfl (fun w' h' => r_move rfl) ?_
            refine ov rfl (fun w' h' => r_move rfl) ?_
            obtain ⟨hg1920, hx⟩ := xg_some hx
            have hi1919 : i1741.toNat < l1762.length := by omega
            refine ov rfl (fun w' h' => r_ixC Try.underlying145 sz22 rfl rfl ((hM.call h').seeOV (.head _)) hg1920) ?_
            obtain ⟨s1922, hM, hc1923⟩ := hM.leafV (i := i1741.toNat) (j := 0) (fun _ => rfl) hi1919 rfl
            refine ov rfl (fun w' h' => r_ld Try.underlying22 rfl rfl (hc1923 w' h')) ?_
            refine ov rfl (fun w' h' => r_move rfl) ?_
            obtain ⟨hg1926, hx⟩ := xg_some hx
            refine ov rfl (fun w' h' => r_add rfl rfl hg1926) ?_
            obtain ⟨hg1929, hx⟩ := xg_some hx
            have hi1928 : ((k1761 + 1).toNat) < (el l1762 i1741.toNat).length := by omega
            refine ov rfl (fun w' h' => r_ixC Try.underlying22 sz3 rfl rfl ((hM.call h').seeV (.head _) (.head _)) hg1929) ?_
            refine ov rfl (fun w' h' => r_ld Try.underlying3 rfl rfl (Cs.get (i := ((k1761 + 1).toNat)) (j := 0) ((hM.call h').seeV (.head _) (.head _)) (fun _ => rfl) hi1928 rfl)) ?_
            obtain ⟨hg1933, hx⟩ := xg_some hx
            have hi1932 : k1761.toNat < (el l1762 i1741.toNat).length := by omega
            refine ov rfl (fun w' h' => r_ixC Try.underlying22 sz3 rfl rfl ((hM.call h').seeV (.head _) (.tail _ (.tail _ (.head _)))) hg1933) ?_
            have hM := hM.open (i := i1741.toNat) (j := 0) (.tail _ (.tail _ (.tail _ (.head _)))) (fun _ => rfl) hi1910 rfl
            refine o_exu fun w1938 h1939 => ?_
            have hM := hM.call h1939
            refine x_stE (f := fI) (k := 1) (L := (el l1762 i1741.toNat)) (i := k1761.toNat) (j := 0) (el (el l1762 i1741.toNat) ((k1761 + 1).toNat)) [cI (el (el l1762 i1741.toNat) ((k1761 + 1).toNat))] sz3 (fun _ => rfl) rfl rfl hi1932 rfl rfl rfl rfl rfl (fun _ => zP (pV _ rfl) zN) hM ?_; intro w1934 hM
            have hM := hM.close (i := i1741.toNat) (j := 0) ((el l1762 i1741.toNat).set k1761.toNat (el (el l1762 i1741.toNat) ((k1761 + 1).toNat))) (fun _ => rfl) hi1910 rfl rfl
            refine o_nil fun w1940 hw1941 => ?_
            have hM := hM.call hw1941
            refine bk_n ?_
            refine bk_n ?_
            refine sq_n ?_
            refine wc_region ?_
            refine wv rfl (r_move rfl) ?_
            obtain ⟨hg1944, hx⟩ := xg_some hx
            refine wv rfl (r_sub rfl rfl hg1944) ?_
            refine wv rfl (r_assign rfl) ?_
            refine wl_nil ?_
            obtain rfl := Option.some.inj hx
            exact lp_end (m1767, k1761 - 1, l1762.set i1741.toNat ((el l1762 i1741.toNat).set k1761.toNat (el (el l1762 i1741.toNat) ((k1761 + 1).toNat)))) (Nat.lt_succ_self _) ⟨rfl, rfl, rfl, rfl, rfl, trivial⟩ ⟨hM, hx1769⟩
      · replace hx := xif_f hc1772 hx
        refine wc_exit ?_
        refine sq_exit ?_
        refine lp1_exit ?_
        obtain rfl := Option.some.inj hx
        obtain rfl := Option.some.inj hx1769
        replace hx := hx1760
        try dsimp only [Sum.elim_inl, Sum.elim_inr] at hx
        refine bk_here ?_
        refine bk_n ?_
        refine sq_n ?_
        refine wc_region ?_
        refine wv rfl (r_move rfl) ?_
        obtain ⟨hg1948, hx⟩ := xg_some hx
        refine wv rfl (r_sub rfl rfl hg1948) ?_
        refine wv rfl (r_assign rfl) ?_
        refine wl_nil ?_
        obtain rfl := Option.some.inj hx
        exact lp_end (m1748, i1741 - 1, l1762, s1743) (Nat.lt_succ_self _) ⟨rfl, rfl, rfl, rfl, trivial⟩ ⟨hM, hx1750⟩
    · replace hx := xif_f hc1753 hx
      refine wc_exit ?_
      refine sq_exit ?_
      refine lp1_exit ?_
      obtain rfl := Option.some.inj hx
      obtain rfl := Option.some.inj hx1750
      replace hx := hx1740
      try dsimp only [Sum.elim_inl, Sum.elim_inr] at hx
      refine bk_here ?_
      refine sq_n ?_
      refine wc_seq ?_
      refine wc_region ?_
      refine wv rfl (r_move rfl) ?_
      refine wv rfl (r_assign rfl) ?_
      refine wl_nil ?_
      refine sq_n ?_
      refine wc_ret ?_
      obtain rfl := Option.some.inj hx
      refine fin_ret [s1743.v] ⟨rfl, trivial⟩ ?_
      replace hM := hM.t1
      have hM := hM.fewer rsN
      exact ⟨s1743, rfl, hM.gives⟩

noncomputable def x_spec_Diff_b0 (a : List Int) (b : List Int) (r14 : List (List Int)) (i289 : Int) (k290 : Int) (l291 : List DPart) (l292 : List Int) (n293 : Int) : Option (Lr (Int × Int × List DPart × List Int × Int) (List DPart × List Int × Int)) :=
  Option.bind (bif decide (i289 < (a.length : Int)) then (some true) else (some (decide (k290 < (b.length : Int))))) fun c554 => bif c554 then (Option.bind (bif decide (i289 < (a.length : Int)) then (some (decide (k290 < (b.length : Int)))) else (some false)) fun c569 => Option.bind (bif c569 then (xg (0 ≤ i289 ∧ i289 < (a.length : Int)) <| xg (0 ≤ k290 ∧ k290 < (b.length : Int)) <| some (decide ((el a i289.toNat) = (el b k290.toNat)))) else (some false)) fun c580 => bif c580 then (Option.bind (x_spec_l02Keep (⟨l291, l292, n293⟩ : DL02B) 1) fun r612 => xg (inI (i289 + 1)) <| xg (inI (k290 + 1)) <| some (Lr.go (i289 + 1, k290 + 1, r612.list, r612.put, r612.drop))) else (Option.bind (bif decide (k290 = (b.length : Int)) then (some true) else (Option.bind (bif decide (i289 < (a.length : Int)) then (xg (inI (i289 + 1)) <| xg (0 ≤ (i289 + 1) ∧ (i289 + 1) < (r14.length : Int)) <| xg (0 ≤ k290 ∧ k290 < ((el r14 ((i289 + 1).toNat)).length : Int)) <| xg (0 ≤ i289 ∧ i289 < (r14.length : Int)) <| xg (inI (k290 + 1)) <| xg (0 ≤ (k290 + 1) ∧ (k290 + 1) < ((el r14 i289.toNat).length : Int)) <| some (decide ((el (el r14 i289.toNat) ((k290 + 1).toNat)) ≤ (el (el r14 ((i289 + 1).toNat)) k290.toNat)))) else (some false)) fun c706 => some c706)) fun c630 => bif c630 then (Option.bind (x_spec_l02Drop (⟨l291, l292, n293⟩ : DL02B) 1) fun r774 => xg (inI (i289 + 1)) <| some (Lr.go (i289 + 1, k290, r774.list, r774.put, r774.drop))) else (xg (inI (k290 + 1)) <| xg (0 ≤ k290 ∧ k290 ≤ (k290 + 1) ∧ (k290 + 1) ≤ (b.length : Int)) <| Option.bind (x_spec_l02Put (⟨l291, l292, n293⟩ : DL02B) ((b.take ((k290 + 1).toNat)).drop k290.toNat)) fun r791 => xg (inI (k290 + 1)) <| some (Lr.go (i289, k290 + 1, r791.list, r791.put, r791.drop))))) else (some (Lr.out (l291, l292, n293)))
noncomputable def x_spec_Diff_f0 (a : List Int) (b : List Int) (r14 : List (List Int)) (s800 : Int × Int × List DPart × List Int × Int) : Option (Lr (Int × Int × List DPart × List Int × Int) (List DPart × List Int × Int)) := x_spec_Diff_b0 a b r14 s800.1 s800.2.1 s800.2.2.1 s800.2.2.2.1 s800.2.2.2.2
noncomputable def x_spec_Diff (a : List Int) (b : List Int) : Option (List DPart × Bool) :=
  Option.bind (x_spec_l22Fit a b) fun r5 => bif !r5 then (some ([], false)) else (Option.bind (x_spec_l22Table a b) fun r14 => Option.bind (iter (x_spec_Diff_f0 a b r14) (0, 0, [], [], 0)) fun (y801 : List DPart × List Int × Int) => Option.bind (x_spec_l02Done (⟨y801.1, y801.2.1, y801.2.2⟩ : DL02B)) fun r807 => some (r807.1, true))
theorem ct_spec_Diff (w : World) (X S : Bs) (a : List Int) (s_a : Sv) (b : List Int) (s_b : Sv) (hS : ∀ b, S b → b < w.heap.size ∧ ¬ X b) (a_a_0 : (cSl 1 fI a).rd S w s_a.v) (a_b_0 : (cSl 1 fI b).rd S w s_b.v) (oL : Sep [] X w) {r : List DPart × Bool} (hx : x_spec_Diff a b = some r) :
    Ret Try.prog 66 [s_a.v, s_b.v] w (fun u w' => ∃ y : Sv, u = .tuple #[y.v, (.bool r.2)] ∧ Gives X S w [oC (cSl 3 fDPart r.1) y.v] [] w') := by
  unfold x_spec_Diff at hx
  refine enter Try.func66 rfl Try.ntmps66 (by kernel_rfl) rfl ?_
  have hM := St.enter oL hS
  have hM := hM.addE (r := rV s_a.v (cSl 1 fI a)) a_a_0
  have hM := hM.addE (r := rV s_b.v (cSl 1 fI b)) a_b_0
  refine wc_seq ?_
  refine wc_region ?_
  refine wv rfl (r_assign rfl) ?_
  refine wv rfl (r_assign rfl) ?_
  refine wl_nil ?_
  refine sq_n ?_
  refine wc_seq ?_
  refine wc_seq ?_
  refine wc_region ?_
  refine wv rfl (r_move rfl) ?_
  refine wv rfl (r_move rfl) ?_
  obtain ⟨r820, h821, hx⟩ := bind_some' hx
  refine w_call rfl rfl (hM.callV fun X S oL hS hR hO => ct_spec_l22Fit _ X S a s_a b s_b hS (hR _ (.tail _ (.head _))) (hR _ (.head _)) oL h821) ?_
  rintro _ w822 ⟨rfl, hR823⟩
  have hM := hM.call hR823
  refine wv rfl (r_not rfl) ?_
  refine wl_nil ?_
  refine sq_n ?_
  refine wc_cond rfl (fun hc825 => ?_) (fun hc825 => ?_)
  · replace hx := xif_t hc825 hx
    refine wc_seq ?_
    refine wc_region ?_
    refine wv rfl (r_assign rfl) ?_
    refine wv rfl (r_assign rfl) ?_
    refine wl_nil ?_
    refine sq_n ?_
    refine wc_ret ?_
    refine sq_ret ?_
    obtain rfl := Option.some.inj hx
    have hM := hM.nil0 (T := DPart) 3 fDPart
    refine fin_ret [nS.v, (.bool false)] ⟨rfl, rfl, trivial⟩ ?_
    replace hM := hM.t1
    have hM := hM.fewer rsN
    exact ⟨nS, rfl, hM.gives⟩
  · replace hx := xif_f hc825 hx
    refine wc_skip ?_
    refine sq_n ?_
    refine wc_seq ?_
    refine wc_region ?_
    refine wv rfl (r_move rfl) ?_
    refine wv rfl (r_move rfl) ?_
    obtain ⟨r831, h832, hx⟩ := bind_some' hx
    refine w_call rfl rfl (hM.callO (l := []) fun X S oL hS hR hO => ct_spec_l22Table _ X S a s_a b s_b hS (hR _ (.tail _ (.head _))) (hR _ (.head _)) oL h832) ?_
    rintro _ w833 ⟨s834, rfl, hM⟩
    replace hM : St ⟨w, X, S⟩ [oC (cSl 1 fLI r831) s834.v] [rV s_b.v (cSl 1 fI b), rV s_a.v (cSl 1 fI a)] _ := hM
    refine wv rfl (r_assign rfl) ?_
    refine wl_nil ?_
    refine sq_n ?_
    refine wc_seq ?_
    refine wc_region ?_
    refine wv rfl (r_build (cells := #[(.slice none 0 0), (.slice none 0 0), (.int .i64 0)]) rfl (by kernel_rfl)) ?_
    refine w_ex rfl (x_box rfl hM ?_); intro b839 w838 hR840 hM
    replace hM : St ⟨w, X, S⟩ [oBox b839 #[(.slice none 0 0), (.slice none 0 0), (.int .i64 0)] 149, oC (cSl 1 fLI r831) s834.v] [rV s_b.v (cSl 1 fI b), rV s_a.v (cSl 1 fI a)] _ := hM
    refine wv rfl (r_assign rfl) ?_
    refine wl_nil ?_
    refine sq_n ?_
    refine wc_seq ?_
    refine wc_region ?_
    refine wv rfl (r_assign rfl) ?_
    refine wl_nil ?_
    refine sq_n ?_
    refine wc_seq ?_
    refine wc_region ?_
    refine wv rfl (r_assign rfl) ?_
    refine wl_nil ?_
    refine sq_n ?_
    refine wc_seq ?_
    refine wc_block ?_
    obtain ⟨y845, hx, hx846⟩ := bind_some' hx
    have hM := hM.nil0 (T := DPart) 3 fDPart
    have hM := hM.nil0 (T := Int) 1 fI
    replace hM := hM.p1.p2.p3
    have hM := hM.fewer (rsC (.tail _ (.head _)) (rsC (.head _) rsN))
    replace hM : St ⟨w, X, S⟩ [oC (cSl 1 fLI r831) s834.v, oBox b839 #[nS.v, nS.v, (.int .i64 0)] 149, oC (cSl 3 fDPart ([] : List DPart)) nS.v, oC (cSl 1 fI ([] : List Int)) nS.v] [rV s_a.v (cSl 1 fI a), rV s_b.v (cSl 1 fI b)] _ := hM
    obtain ⟨m860, hx⟩ := iter_run hx
    refine wc_loop (un fun (m858 : Nat) => un fun (i849 : Int) => un fun (k850 : Int) => un fun (l851 : List DPart) => un fun (l852 : List Int) => un fun (n853 : Int) => un fun (s855 : Sv) => fun (s857 : Sv) => [(0, s_a.v), (1, s_b.v), (6, s834.v), (7, (.pointer (some ⟨b839, 0, none⟩))), (8, (.int .i64 i849)), (9, (.int .i64 k850))]) (un fun (m858 : Nat) => un fun (i849 : Int) => un fun (k850 : Int) => un fun (l851 : List DPart) => un fun (l852 : List Int) => un fun (n853 : Int) => un fun (s855 : Sv) => fun (s857 : Sv) w' => St ⟨w, X, S⟩ [oC (cSl 1 fLI r831) s834.v, oBox b839 #[s855.v, s857.v, (.int .i64 n853)] 149, oC (cSl 3 fDPart l851) s855.v, oC (cSl 1 fI l852) s857.v] [rV s_a.v (cSl 1 fI a), rV s_b.v (cSl 1 fI b)] w' ∧ iterN _ m858 (i849, k850, l851, l852, n853) = some y845) (fun p => p.1) (m860, 0, 0, [], [], 0, nS, nS) ⟨rfl, rfl, rfl, rfl, rfl, rfl, trivial⟩ ⟨hM, hx⟩ ?_
    rintro ⟨m858, i849, k850, l851, l852, n853, s855, s857⟩ w861 ⟨hM, hx⟩
    obtain ⟨m862, z863, rfl, hx, hx864⟩ := iterN_step hx
    unfold x_spec_Diff_f0 x_spec_Diff_b0 at hx
    try dsimp only at hx
    refine wc_seq ?_
    refine wc_seq ?_
    refine wc_region ?_
    refine wv rfl (r_move rfl) ?_
    refine wv rfl (r_move rfl) ?_
    refine wv rfl (r_lenC Try.underlying22 rfl (hM.seeR (.head _))) ?_
    refine wv rfl (r_lss rfl rfl) ?_
    refine wv rfl (r_move rfl) ?_
    obtain ⟨c870, hx, hx876⟩ := bind_some' hx
    refine wl_mid 5 (fun _ : Unit => [(28, (.bool c870)), (0, s_a.v), (1, s_b.v), (6, s834.v), (7, (.pointer (some ⟨b839, 0, none⟩))), (8, (.int .i64 i849)), (9, (.int .i64 k850))]) (fun _ w' => St ⟨w, X, S⟩ [oC (cSl 1 fLI r831) s834.v, oBox b839 #[s855.v, s857.v, (.int .i64 n853)] 149, oC (cSl 3 fDPart l851) s855.v, oC (cSl 1 fI l852) s857.v] [rV s_a.v (cSl 1 fI a), rV s_b.v (cSl 1 fI b)] w') ?_ ?_
    · rcases Bool.eq_false_or_eq_true (decide (i849 < (a.length : Int))) with hg871 | hg871
      · replace hx := xif_t hg871 hx
        refine gs rfl (isB_no hg871) rfl ?_
        refine gs rfl (isB_no hg871) rfl ?_
        refine gs rfl (isB_no hg871) rfl ?_
        refine gs rfl (isB_no hg871) rfl ?_
        refine wv rfl (p_t rfl hg871 rfl) ?_
        obtain rfl := Option.some.inj hx
        exact mid_nil () ⟨rfl, rfl, rfl, rfl, rfl, rfl, rfl, trivial⟩ hM
      · replace hx := xif_f hg871 hx
        refine gv rfl hg871 rfl (r_move rfl) ?_
        refine gv rfl hg871 rfl (r_move rfl) ?_
        refine gv rfl hg871 rfl (r_lenC Try.underlying22 rfl (hM.seeR (.tail _ (.head _)))) ?_
        refine gv rfl hg871 rfl (r_lss rfl rfl) ?_
        refine wv rfl (p_f rfl hg871 rfl) ?_
        obtain rfl := Option.some.inj hx
        exact mid_nil () ⟨rfl, rfl, rfl, rfl, rfl, rfl, rfl, trivial⟩ hM
    rintro _ w881 hM
    replace hx := hx876
    refine wl_nil ?_
    refine sq_n ?_
    refine wc_cond rfl (fun hc882 => ?_) (fun hc882 => ?_)
    · replace hx := xif_t hc882 hx
      refine wc_skip ?_
      refine sq_n ?_
      refine wc_block ?_
      refine wc_block ?_
      refine wc_seq ?_
      refine wc_draw [(0, 0), (1, 0), (2, 0), (3, 0), (4, 0), (5, 0), (6, 0), (7, 0), (8, 0), (9, 0), (10, 0), (11, 0), (12, 0), (13, 0), (14, 0), (15, 0), (16, 0), (17, 0), (18, 0), (19, 0), (20, 0), (21, 0)] Try_mixed (by kernel_rfl) rfl (by kernel_rfl) rfl ?_
      refine ov rfl (fun w' h' => r_move rfl) ?_
      refine ov rfl (fun w' h' => r_move rfl) ?_
      refine ov rfl (fun w' h' => r_lenC Try.underlying22 rfl ((hM.call h').seeR (.head _))) ?_
      refine ov rfl (fun w' h' => r_lss rfl rfl) ?_
      refine ov rfl (fun w' h' => r_move rfl) ?_
      obtain ⟨c888, hx, hx894⟩ := bind_some' hx
      refine wo_mid 5 [(48, (.bool c888)), (0, s_a.v), (1, s_b.v), (6, s834.v), (7, (.pointer (some ⟨b839, 0, none⟩))), (8, (.int .i64 i849)), (9, (.int .i64 k850))] rfl ?_ ?_
      · rcases Bool.eq_false_or_eq_true (decide (i849 < (a.length : Int))) with hg889 | hg889
        · replace hx := xif_t hg889 hx
          refine ogv rfl hg889 rfl (fun w' h' => r_move rfl) ?_
          refine ogv rfl hg889 rfl (fun w' h' => r_move rfl) ?_
          refine ogv rfl hg889 rfl (fun w' h' => r_lenC Try.underlying22 rfl ((hM.call h').seeR (.tail _ (.head _)))) ?_
          refine ogv rfl hg889 rfl (fun w' h' => r_lss rfl rfl) ?_
          refine ov rfl (fun w' h' => p_t rfl hg889 rfl) ?_
          obtain rfl := Option.some.inj hx
          exact mid_onil ⟨rfl, rfl, rfl, rfl, rfl, rfl, rfl, trivial⟩
        · replace hx := xif_f hg889 hx
          refine ogs rfl (isB_no hg889) rfl ?_
          refine ogs rfl (isB_no hg889) rfl ?_
          refine ogs rfl (isB_no hg889) rfl ?_
          refine ogs rfl (isB_no hg889) rfl ?_
          refine ov rfl (fun w' h' => p_f rfl hg889 rfl) ?_
          obtain rfl := Option.some.inj hx
          exact mid_onil ⟨rfl, rfl, rfl, rfl, rfl, rfl, rfl, trivial⟩
      replace hx := hx894
      refine ov rfl (fun w' h' => r_move rfl) ?_
      obtain ⟨c900, hx, hx915⟩ := bind_some' hx
      refine wo_mid 10 [(59, (.bool c900)), (0, s_a.v), (1, s_b.v), (6, s834.v), (7, (.pointer (some ⟨b839, 0, none⟩))), (8, (.int .i64 i849)), (9, (.int .i64 k850))] rfl ?_ ?_
      · rcases Bool.eq_false_or_eq_true c888 with hg901 | hg901
        · replace hx := xif_t hg901 hx
          refine ogv rfl hg901 rfl (fun w' h' => r_move rfl) ?_
          refine ogv rfl hg901 rfl (fun w' h' => r_move rfl) ?_
          obtain ⟨hg920, hx⟩ := xg_some hx
          have hi919 : i849.toNat < a.length := by omega
          refine ogv rfl hg901 rfl (fun w' h' => r_ixC Try.underlying22 sz3 rfl rfl ((hM.call h').seeR (.head _)) hg920) ?_
          refine ogv rfl hg901 rfl (fun w' h' => r_ld Try.underlying3 rfl rfl (Cs.get (i := i849.toNat) (j := 0) ((hM.call h').seeR (.head _)) (fun _ => rfl) hi919 rfl)) ?_
          refine ogv rfl hg901 rfl (fun w' h' => r_move rfl) ?_
          refine ogv rfl hg901 rfl (fun w' h' => r_move rfl) ?_
          obtain ⟨hg926, hx⟩ := xg_some hx
          have hi925 : k850.toNat < b.length := by omega
          refine ogv rfl hg901 rfl (fun w' h' => r_ixC Try.underlying22 sz3 rfl rfl ((hM.call h').seeR (.tail _ (.head _))) hg926) ?_
          refine ogv rfl hg901 rfl (fun w' h' => r_ld Try.underlying3 rfl rfl (Cs.get (i := k850.toNat) (j := 0) ((hM.call h').seeR (.tail _ (.head _))) (fun _ => rfl) hi925 rfl)) ?_
          refine ogv rfl hg901 rfl (fun w' h' => r_eql rfl rfl) ?_
          refine ov rfl (fun w' h' => p_t rfl hg901 rfl) ?_
          obtain rfl := Option.some.inj hx
          exact mid_onil ⟨rfl, rfl, rfl, rfl, rfl, rfl, rfl, trivial⟩
        · replace hx := xif_f hg901 hx
          refine ogs rfl (isB_no hg901) rfl ?_
          refine ogs rfl (isB_no hg901) rfl ?_
          refine ogs rfl (isB_no hg901) rfl ?_
          refine ogs rfl (isB_no hg901) rfl ?_
          refine ogs rfl (isB_no hg901) rfl ?_
          refine ogs rfl (isB_no hg901) rfl ?_
          refine ogs rfl (isB_no hg901) rfl ?_
          refine ogs rfl (isB_no hg901) rfl ?_
          refine ogs rfl (isB_no hg901) rfl ?_
          refine ov rfl (fun w' h' => p_f rfl hg901 rfl) ?_
          obtain rfl := Option.some.inj hx
          exact mid_onil ⟨rfl, rfl, rfl, rfl, rfl, rfl, rfl, trivial⟩
      replace hx := hx915
      refine ov rfl (fun w' h' => r_assign rfl) ?_
      refine o_nil fun w930 hw931 => ?_
      have hM := hM.call hw931
      refine sq_n ?_
      refine wc_cond rfl (fun hc932 => ?_) (fun hc932 => ?_)
      · replace hx := xif_t hc932 hx
        refine wc_seq ?_
        refine wc_region ?_
        refine wv rfl (r_move rfl) ?_
        replace hM := hM.p3.p3.p3
        obtain ⟨r934, h935, hx⟩ := bind_some' hx
        refine w_call rfl rfl (hM.callO (l := [oBox b839 #[s855.v, s857.v, (.int .i64 n853)] 149, oC (cSl 3 fDPart l851) s855.v, oC (cSl 1 fI l852) s857.v]) fun X S oL hS hR hO => ct_spec_l02Keep _ X S b839 (⟨l851, l852, n853⟩ : DL02B) s855 s857 (1 : Int) hS  oL h935) ?_
        rintro _ w936 ⟨⟨s937, s938⟩, rfl, hM⟩
        replace hM : St ⟨w, X, S⟩ [oBox b839 #[s937.v, s938.v, (.int .i64 r934.drop)] 149, oC (cSl 3 fDPart r934.list) s937.v, oC (cSl 1 fI r934.put) s938.v, oC (cSl 1 fLI r831) s834.v] [rV s_a.v (cSl 1 fI a), rV s_b.v (cSl 1 fI b)] _ := hM
        refine wl_nil ?_
        refine sq_n ?_
        refine wc_seq ?_
        refine wc_region ?_
        refine wv rfl (r_move rfl) ?_
        obtain ⟨hg941, hx⟩ := xg_some hx
        refine wv rfl (r_add rfl rfl hg941) ?_
        refine wv rfl (r_assign rfl) ?_
        refine wl_nil ?_
        refine sq_n ?_
        refine wc_region ?_
        refine wv rfl (r_move rfl) ?_
        obtain ⟨hg945, hx⟩ := xg_some hx
        refine wv rfl (r_add rfl rfl hg945) ?_
        refine wv rfl (r_assign rfl) ?_
        refine wl_nil ?_
        refine bk_n ?_
        refine bk_n ?_
        obtain rfl := Option.some.inj hx
        replace hM := hM.p2.p2.p2.p3
        exact lp_end (m862, i849 + 1, k850 + 1, r934.list, r934.put, r934.drop, s937, s938) (Nat.lt_succ_self _) ⟨rfl, rfl, rfl, rfl, rfl, rfl, trivial⟩ ⟨hM, hx864⟩
      · replace hx := xif_f hc932 hx
        refine wc_seq ?_
        refine wc_draw [(0, 0), (1, 0), (2, 0), (3, 0), (4, 0), (5, 0), (6, 0), (7, 0), (8, 0), (9, 0), (10, 0), (11, 0), (12, 0), (13, 0), (14, 0), (15, 0), (16, 0), (17, 0), (18, 0), (19, 0), (20, 0), (21, 0), (22, 0), (23, 0), (24, 0), (25, 0), (26, 0), (27, 0), (28, 0), (29, 0)] Try_mixed (by kernel_rfl) rfl (by kernel_rfl) rfl ?_
        refine ov rfl (fun w' h' => r_move rfl) ?_
        refine ov rfl (fun w' h' => r_move rfl) ?_
        refine ov rfl (fun w' h' => r_lenC Try.underlying22 rfl ((hM.call h').seeR (.tail _ (.head _)))) ?_
        refine ov rfl (fun w' h' => r_eql rfl rfl) ?_
        refine ov rfl (fun w' h' => r_move rfl) ?_
        obtain ⟨c952, hx, hx1023⟩ := bind_some' hx
        refine wo_mid 24 [(95, (.bool c952)), (0, s_a.v), (1, s_b.v), (6, s834.v), (7, (.pointer (some ⟨b839, 0, none⟩))), (8, (.int .i64 i849)), (9, (.int .i64 k850))] rfl ?_ ?_
        · rcases Bool.eq_false_or_eq_true (decide (k850 = (b.length : Int))) with hg953 | hg953
          · replace hx := xif_t hg953 hx
            refine ogs rfl (isB_no hg953) rfl ?_
            refine ogs rfl (isB_no hg953) rfl ?_
            refine ogs rfl (isB_no hg953) rfl ?_
            refine ogs rfl (isB_no hg953) rfl ?_
            refine ogs rfl (isB_no hg953) rfl ?_
            refine ogs rfl rfl rfl ?_
            refine ogs rfl rfl rfl ?_
            refine ogs rfl rfl rfl ?_
            refine ogs rfl rfl rfl ?_
            refine ogs rfl rfl rfl ?_
            refine ogs rfl rfl rfl ?_
            refine ogs rfl rfl rfl ?_
            refine ogs rfl rfl rfl ?_
            refine ogs rfl rfl rfl ?_
            refine ogs rfl rfl rfl ?_
            refine ogs rfl rfl rfl ?_
            refine ogs rfl rfl rfl ?_
            refine ogs rfl rfl rfl ?_
            refine ogs rfl rfl rfl ?_
            refine ogs rfl rfl rfl ?_
            refine ogs rfl rfl rfl ?_
            refine ogs rfl rfl rfl ?_
            refine ogs rfl (isB_no hg953) rfl ?_
            refine ov rfl (fun w' h' => p_t rfl hg953 rfl) ?_
            obtain rfl := Option.some.inj hx
            exact mid_onil ⟨rfl, rfl, rfl, rfl, rfl, rfl, rfl, trivial⟩
          · replace hx := xif_f hg953 hx
            refine ogv rfl hg953 rfl (fun w' h' => r_move rfl) ?_
            refine ogv rfl hg953 rfl (fun w' h' => r_move rfl) ?_
            refine ogv rfl hg953 rfl (fun w' h' => r_lenC Try.underlying22 rfl ((hM.call h').seeR (.head _))) ?_
            refine ogv rfl hg953 rfl (fun w' h' => r_lss rfl rfl) ?_
            refine ogv rfl hg953 rfl (fun w' h' => r_move rfl) ?_
            obtain ⟨c1029, hx, hx1062⟩ := bind_some' hx
            refine wo_mid 18 [(94, (.bool c1029)), (0, s_a.v), (1, s_b.v), (6, s834.v), (7, (.pointer (some ⟨b839, 0, none⟩))), (8, (.int .i64 i849)), (9, (.int .i64 k850)), (71, (.bool (decide (k850 = (b.length : Int))))), (72, (.int .i64 i849)), (73, s_a.v), (74, (.int .i64 (a.length : Int))), (75, (.bool (decide (i849 < (a.length : Int))))), (76, (.bool (decide (i849 < (a.length : Int)))))] rfl ?_ ?_
            · rcases Bool.eq_false_or_eq_true (decide (i849 < (a.length : Int))) with hg1030 | hg1030
              · replace hx := xif_t hg1030 hx
                refine ogv rfl hg1030 rfl (fun w' h' => r_move rfl) ?_
                refine ogv rfl hg1030 rfl (fun w' h' => r_move rfl) ?_
                obtain ⟨hg1066, hx⟩ := xg_some hx
                refine ogv rfl hg1030 rfl (fun w' h' => r_add rfl rfl hg1066) ?_
                obtain ⟨hg1069, hx⟩ := xg_some hx
                have hi1068 : ((i849 + 1).toNat) < r831.length := by omega
                refine ogv rfl hg1030 rfl (fun w' h' => r_ixC Try.underlying145 sz22 rfl rfl ((hM.call h').seeO (.head _)) hg1069) ?_
                obtain ⟨s1071, hM, hc1072⟩ := hM.leafO (i := ((i849 + 1).toNat)) (j := 0) (fun _ => rfl) hi1068 rfl
                refine ogv rfl hg1030 rfl (fun w' h' => r_ld Try.underlying22 rfl rfl (hc1072 w' h')) ?_
                refine ogv rfl hg1030 rfl (fun w' h' => r_move rfl) ?_
                obtain ⟨hg1076, hx⟩ := xg_some hx
                have hi1075 : k850.toNat < (el r831 ((i849 + 1).toNat)).length := by omega
                refine ogv rfl hg1030 rfl (fun w' h' => r_ixC Try.underlying22 sz3 rfl rfl ((hM.call h').seeV (.head _) (.head _)) hg1076) ?_
                refine ogv rfl hg1030 rfl (fun w' h' => r_ld Try.underlying3 rfl rfl (Cs.get (i := k850.toNat) (j := 0) ((hM.call h').seeV (.head _) (.head _)) (fun _ => rfl) hi1075 rfl)) ?_
                refine ogv rfl hg1030 rfl (fun w' h' => r_move rfl) ?_
                refine ogv rfl hg1030 rfl (fun w' h' => r_move rfl) ?_
                obtain ⟨hg1082, hx⟩ := xg_some hx
                have hi1081 : i849.toNat < r831.length := by omega
                refine ogv rfl hg1030 rfl (fun w' h' => r_ixC Try.underlying145 sz22 rfl rfl ((hM.call h').seeOV (.head _)) hg1082) ?_
                obtain ⟨s1084, hM, hc1085⟩ := hM.leafV (i := i849.toNat) (j := 0) (fun _ => rfl) hi1081 rfl
                refine ogv rfl hg1030 rfl (fun w' h' => r_ld Try.underlying22 rfl rfl (hc1085 w' h')) ?_
                refine ogv rfl hg1030 rfl (fun w' h' => r_move rfl) ?_
                obtain ⟨hg1088, hx⟩ := xg_some hx
                refine ogv rfl hg1030 rfl (fun w' h' => r_add rfl rfl hg1088) ?_
                obtain ⟨hg1091, hx⟩ := xg_some hx
                have hi1090 : ((k850 + 1).toNat) < (el r831 i849.toNat).length := by omega
                refine ogv rfl hg1030 rfl (fun w' h' => r_ixC Try.underlying22 sz3 rfl rfl ((hM.call h').seeV (.head _) (.head _)) hg1091) ?_
                refine ogv rfl hg1030 rfl (fun w' h' => r_ld Try.underlying3 rfl rfl (Cs.get (i := ((k850 + 1).toNat)) (j := 0) ((hM.call h').seeV (.head _) (.head _)) (fun _ => rfl) hi1090 rfl)) ?_
                refine ogv rfl hg1030 rfl (fun w' h' => r_geq rfl rfl) ?_
                refine ogv rfl hg953 rfl (fun w' h' => p_t rfl hg1030 rfl) ?_
                obtain rfl := Option.some.inj hx
                exact mid_onil ⟨rfl, rfl, rfl, rfl, rfl, rfl, rfl, rfl, rfl, rfl, rfl, rfl, rfl, trivial⟩
              · replace hx := xif_f hg1030 hx
                refine ogs rfl (isB_no hg1030) rfl ?_
                refine ogs rfl (isB_no hg1030) rfl ?_
                refine ogs rfl (isB_no hg1030) rfl ?_
                refine ogs rfl (isB_no hg1030) rfl ?_
                refine ogs rfl (isB_no hg1030) rfl ?_
                refine ogs rfl (isB_no hg1030) rfl ?_
                refine ogs rfl (isB_no hg1030) rfl ?_
                refine ogs rfl (isB_no hg1030) rfl ?_
                refine ogs rfl (isB_no hg1030) rfl ?_
                refine ogs rfl (isB_no hg1030) rfl ?_
                refine ogs rfl (isB_no hg1030) rfl ?_
                refine ogs rfl (isB_no hg1030) rfl ?_
                refine ogs rfl (isB_no hg1030) rfl ?_
                refine ogs rfl (isB_no hg1030) rfl ?_
                refine ogs rfl (isB_no hg1030) rfl ?_
                refine ogs rfl (isB_no hg1030) rfl ?_
                refine ogs rfl (isB_no hg1030) rfl ?_
                refine ogv rfl hg953 rfl (fun w' h' => p_f rfl hg1030 rfl) ?_
                obtain rfl := Option.some.inj hx
                exact mid_onil ⟨rfl, rfl, rfl, rfl, rfl, rfl, rfl, rfl, rfl, rfl, rfl, rfl, rfl, trivial⟩
            replace hx := hx1062
            refine ov rfl (fun w' h' => p_f rfl hg953 rfl) ?_
            obtain rfl := Option.some.inj hx
            exact mid_onil ⟨rfl, rfl, rfl, rfl, rfl, rfl, rfl, trivial⟩
        replace hx := hx1023
        refine ov rfl (fun w' h' => r_assign rfl) ?_
        refine o_nil fun w1095 hw1096 => ?_
        have hM := hM.call hw1096
        refine sq_n ?_
        refine wc_cond rfl (fun hc1097 => ?_) (fun hc1097 => ?_)
        · replace hx := xif_t hc1097 hx
          refine wc_seq ?_
          refine wc_region ?_
          refine wv rfl (r_move rfl) ?_
          replace hM := hM.p3.p3.p3
          obtain ⟨r1099, h1100, hx⟩ := bind_some' hx
          refine w_call rfl rfl (hM.callO (l := [oBox b839 #[s855.v, s857.v, (.int .i64 n853)] 149, oC (cSl 3 fDPart l851) s855.v, oC (cSl 1 fI l852) s857.v]) fun X S oL hS hR hO => ct_spec_l02Drop _ X S b839 (⟨l851, l852, n853⟩ : DL02B) s855 s857 (1 : Int) hS  oL h1100) ?_
          rintro _ w1101 ⟨⟨s1102, s1103⟩, rfl, hM⟩
          replace hM : St ⟨w, X, S⟩ [oBox b839 #[s1102.v, s1103.v, (.int .i64 r1099.drop)] 149, oC (cSl 3 fDPart r1099.list) s1102.v, oC (cSl 1 fI r1099.put) s1103.v, oC (cSl 1 fLI r831) s834.v] [rV s_a.v (cSl 1 fI a), rV s_b.v (cSl 1 fI b)] _ := hM
          refine wl_nil ?_
          refine sq_n ?_
          refine wc_region ?_
          refine wv rfl (r_move rfl) ?_
          obtain ⟨hg1106, hx⟩ := xg_some hx
          refine wv rfl (r_add rfl rfl hg1106) ?_
          refine wv rfl (r_assign rfl) ?_
          refine wl_nil ?_
          refine bk_n ?_
          refine bk_n ?_
          obtain rfl := Option.some.inj hx
          replace hM := hM.p2.p2.p2.p3
          exact lp_end (m862, i849 + 1, k850, r1099.list, r1099.put, r1099.drop, s1102, s1103) (Nat.lt_succ_self _) ⟨rfl, rfl, rfl, rfl, rfl, rfl, trivial⟩ ⟨hM, hx864⟩
        · replace hx := xif_f hc1097 hx
          refine wc_seq ?_
          refine wc_region ?_
          refine wv rfl (r_move rfl) ?_
          refine wv rfl (r_move rfl) ?_
          refine wv rfl (r_move rfl) ?_
          refine wv rfl (r_move rfl) ?_
          obtain ⟨hg1113, hx⟩ := xg_some hx
          refine wv rfl (r_add rfl rfl hg1113) ?_
          obtain ⟨hg1115, hx⟩ := xg_some hx
          have hM := hM.cutR (L := b) (f := fI) (lo := k850.toNat) (hi := ((k850 + 1).toNat)) (fun _ => rfl) (by omega) (by omega) (.tail _ (.head _))
          refine wv rfl (r_slc Try.underlying22 sz3 rfl rfl rfl (hM.seeR (.tail _ (.tail _ (.head _)))) hg1115) ?_
          replace hM := hM.p3.p3.p3
          obtain ⟨r1116, h1117, hx⟩ := bind_some' hx
          refine w_call rfl rfl (hM.callO (l := [oBox b839 #[s855.v, s857.v, (.int .i64 n853)] 149, oC (cSl 3 fDPart l851) s855.v, oC (cSl 1 fI l852) s857.v]) fun X S oL hS hR hO => ct_spec_l02Put _ X S b839 (⟨l851, l852, n853⟩ : DL02B) s855 s857 ((b.take ((k850 + 1).toNat)).drop k850.toNat) (s_b.cut 1 k850.toNat ((k850 + 1).toNat)) hS (hR _ (.head _)) oL h1117) ?_
          rintro _ w1118 ⟨⟨s1119, s1120⟩, rfl, hM⟩
          replace hM : St ⟨w, X, S⟩ [oBox b839 #[s1119.v, s1120.v, (.int .i64 r1116.drop)] 149, oC (cSl 3 fDPart r1116.list) s1119.v, oC (cSl 1 fI r1116.put) s1120.v, oC (cSl 1 fLI r831) s834.v] [rV (s_b.cut 1 k850.toNat ((k850 + 1).toNat)).v (cSl 1 fI ((b.take ((k850 + 1).toNat)).drop k850.toNat)), rV s_a.v (cSl 1 fI a), rV s_b.v (cSl 1 fI b)] _ := hM
          refine wl_nil ?_
          refine sq_n ?_
          refine wc_region ?_
          refine wv rfl (r_move rfl) ?_
          obtain ⟨hg1123, hx⟩ := xg_some hx
          refine wv rfl (r_add rfl rfl hg1123) ?_
          refine wv rfl (r_assign rfl) ?_
          refine wl_nil ?_
          refine bk_n ?_
          refine bk_n ?_
          obtain rfl := Option.some.inj hx
          replace hM := hM.p2.p2.p2.p3
          have hM := hM.fewer (rsC (.tail _ (.head _)) (rsC (.tail _ (.tail _ (.head _))) rsN))
          replace hM : St ⟨w, X, S⟩ [oC (cSl 1 fLI r831) s834.v, oBox b839 #[s1119.v, s1120.v, (.int .i64 r1116.drop)] 149, oC (cSl 3 fDPart r1116.list) s1119.v, oC (cSl 1 fI r1116.put) s1120.v] [rV s_a.v (cSl 1 fI a), rV s_b.v (cSl 1 fI b)] _ := hM
          exact lp_end (m862, i849, k850 + 1, r1116.list, r1116.put, r1116.drop, s1119, s1120) (Nat.lt_succ_self _) ⟨rfl, rfl, rfl, rfl, rfl, rfl, trivial⟩ ⟨hM, hx864⟩
    · replace hx := xif_f hc882 hx
      refine wc_exit ?_
      refine sq_exit ?_
      refine lp1_exit ?_
      obtain rfl := Option.some.inj hx
      obtain rfl := Option.some.inj hx864
      replace hx := hx846
      try dsimp only [Sum.elim_inl, Sum.elim_inr] at hx
      refine bk_here ?_
      refine sq_n ?_
      refine wc_seq ?_
      refine wc_region ?_
      refine wv rfl (r_move rfl) ?_
      replace hM := hM.p3.p3.p3
      obtain ⟨r1126, h1127, hx⟩ := bind_some' hx
      refine w_call rfl rfl (hM.callO (l := [oBox b839 #[s855.v, s857.v, (.int .i64 n853)] 149, oC (cSl 3 fDPart l851) s855.v, oC (cSl 1 fI l852) s857.v]) fun X S oL hS hR hO => ct_spec_l02Done _ X S b839 (⟨l851, l852, n853⟩ : DL02B) s855 s857 hS  oL h1127) ?_
      rintro _ w1128 ⟨⟨s1129, s1130, s1131⟩, rfl, hM⟩
      replace hM : St ⟨w, X, S⟩ [oC (cSl 3 fDPart r1126.1) s1129.v, oBox b839 #[s1130.v, s1131.v, (.int .i64 r1126.2.drop)] 149, oC (cSl 1 fI r1126.2.put) s1131.v, oC (cSl 1 fLI r831) s834.v] [rV s_a.v (cSl 1 fI a), rV s_b.v (cSl 1 fI b)] _ := hM
      refine wv rfl (r_assign rfl) ?_
      refine wv rfl (r_assign rfl) ?_
      refine wl_nil ?_
      refine sq_n ?_
      refine wc_ret ?_
      obtain rfl := Option.some.inj hx
      refine fin_ret [s1129.v, (.bool true)] ⟨rfl, rfl, trivial⟩ ?_
      replace hM := hM.t1
      have hM := hM.fewer rsN
      exact ⟨s1129, rfl, hM.gives⟩

end Go.Proofs.Ytbghemgoeemdfaa
