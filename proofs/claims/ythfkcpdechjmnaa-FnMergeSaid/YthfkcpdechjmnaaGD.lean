/- Walks of functions of this program (printed by a program of ours, by the rules of the layer). No condition. -/
import Derived.Test.YthfkcpdechjmnaaG3
import Derived.Test.YthfkcpdechjmnaaNr
namespace Go.Proofs.Ythfkcpdechjmnaa
open Go.RowKit

noncomputable def x_impl_diffOk (a : List Int) (b : List Int) : Option Bool :=
  Option.bind (x_impl_TextOk a) fun r3 => Option.bind (bif r3 then (Option.bind (x_impl_TextOk b) fun r16 => some r16) else (some false)) fun c8 => Option.bind (bif c8 then (some (decide ((a.length : Int) ≤ 60))) else (some false)) fun c21 => Option.bind (bif c21 then (some (decide ((b.length : Int) ≤ 60))) else (some false)) fun c30 => some c30
theorem ct_impl_diffOk (w : World) (X S : Bs) (a : List Int) (s_a : Sv) (b : List Int) (s_b : Sv) (hS : ∀ b, S b → b < w.heap.size ∧ ¬ X b) (a_a_0 : (cSl 1 fI a).rd S w s_a.v) (a_b_0 : (cSl 1 fI b).rd S w s_b.v) (oL : Sep [] X w) {r : Bool} (hx : x_impl_diffOk a b = some r) :
    Ret Try.prog 61 [s_a.v, s_b.v] w (fun u w' => ∃ _ : Unit, u = (.bool r) ∧ Gives X S w [] [] w') := by
  unfold x_impl_diffOk at hx
  refine enter Try.func61 rfl Try.ntmps61 (by kernel_rfl) rfl ?_
  have hM := St.enter oL hS
  have hM := hM.addE (r := rV s_a.v (cSl 1 fI a)) a_a_0
  have hM := hM.addE (r := rV s_b.v (cSl 1 fI b)) a_b_0
  refine wc_seq ?_
  refine wc_region ?_
  refine wv rfl (r_assign rfl) ?_
  refine wl_nil ?_
  refine sq_n ?_
  refine wc_seq ?_
  refine wc_region ?_
  refine wv rfl (r_move rfl) ?_
  obtain ⟨r41, h42, hx⟩ := bind_some' hx
  refine w_call rfl rfl (hM.callV fun X S oL hS hR hO => ct_impl_TextOk _ X S a s_a hS (hR _ (.tail _ (.head _))) oL h42) ?_
  rintro _ w43 ⟨rfl, hR44⟩
  have hM := hM.call hR44
  refine wv rfl (r_move rfl) ?_
  obtain ⟨c46, hx, hx53⟩ := bind_some' hx
  refine wl_mid 3 (fun _ : Unit => [(10, (.bool c46)), (0, s_a.v), (1, s_b.v)]) (fun _ w' => St ⟨w, X, S⟩ [] [rV s_b.v (cSl 1 fI b), rV s_a.v (cSl 1 fI a)] w') ?_ ?_
  · rcases Bool.eq_false_or_eq_true r41 with hg47 | hg47
    · replace hx := xif_t hg47 hx
      refine gv rfl hg47 rfl (r_move rfl) ?_
      obtain ⟨r55, h56, hx⟩ := bind_some' hx
      refine gc rfl hg47 rfl rfl (hM.callV fun X S oL hS hR hO => ct_impl_TextOk _ X S b s_b hS (hR _ (.head _)) oL h56) ?_
      rintro _ w57 ⟨rfl, hR58⟩
      have hM := hM.call hR58
      refine wv rfl (p_t rfl hg47 rfl) ?_
      obtain rfl := Option.some.inj hx
      exact mid_nil () ⟨rfl, rfl, rfl, trivial⟩ hM
    · replace hx := xif_f hg47 hx
      refine gs rfl (isB_no hg47) rfl ?_
      refine gs rfl (isB_no hg47) rfl ?_
      refine wv rfl (p_f rfl hg47 rfl) ?_
      obtain rfl := Option.some.inj hx
      exact mid_nil () ⟨rfl, rfl, rfl, trivial⟩ hM
  rintro _ w59 hM
  replace hx := hx53
  refine wv rfl (r_move rfl) ?_
  obtain ⟨c61, hx, hx66⟩ := bind_some' hx
  refine wl_mid 4 (fun _ : Unit => [(15, (.bool c61)), (1, s_b.v)]) (fun _ w' => St ⟨w, X, S⟩ [] [rV s_b.v (cSl 1 fI b), rV s_a.v (cSl 1 fI a)] w') ?_ ?_
  · rcases Bool.eq_false_or_eq_true c46 with hg62 | hg62
    · replace hx := xif_t hg62 hx
      refine gv rfl hg62 rfl (r_move rfl) ?_
      refine gv rfl hg62 rfl (r_lenC Try.underlying26 rfl (hM.seeR (.tail _ (.head _)))) ?_
      refine gv rfl hg62 rfl (r_leq rfl rfl) ?_
      refine wv rfl (p_t rfl hg62 rfl) ?_
      obtain rfl := Option.some.inj hx
      exact mid_nil () ⟨rfl, rfl, trivial⟩ hM
    · replace hx := xif_f hg62 hx
      refine gs rfl (isB_no hg62) rfl ?_
      refine gs rfl (isB_no hg62) rfl ?_
      refine gs rfl (isB_no hg62) rfl ?_
      refine wv rfl (p_f rfl hg62 rfl) ?_
      obtain rfl := Option.some.inj hx
      exact mid_nil () ⟨rfl, rfl, trivial⟩ hM
  rintro _ w70 hM
  replace hx := hx66
  refine wv rfl (r_move rfl) ?_
  obtain ⟨c72, hx, hx77⟩ := bind_some' hx
  refine wl_mid 4 (fun _ : Unit => [(20, (.bool c72))]) (fun _ w' => St ⟨w, X, S⟩ [] [rV s_b.v (cSl 1 fI b), rV s_a.v (cSl 1 fI a)] w') ?_ ?_
  · rcases Bool.eq_false_or_eq_true c61 with hg73 | hg73
    · replace hx := xif_t hg73 hx
      refine gv rfl hg73 rfl (r_move rfl) ?_
      refine gv rfl hg73 rfl (r_lenC Try.underlying26 rfl (hM.seeR (.head _))) ?_
      refine gv rfl hg73 rfl (r_leq rfl rfl) ?_
      refine wv rfl (p_t rfl hg73 rfl) ?_
      obtain rfl := Option.some.inj hx
      exact mid_nil () ⟨rfl, trivial⟩ hM
    · replace hx := xif_f hg73 hx
      refine gs rfl (isB_no hg73) rfl ?_
      refine gs rfl (isB_no hg73) rfl ?_
      refine gs rfl (isB_no hg73) rfl ?_
      refine wv rfl (p_f rfl hg73 rfl) ?_
      obtain rfl := Option.some.inj hx
      exact mid_nil () ⟨rfl, trivial⟩ hM
  rintro _ w81 hM
  replace hx := hx77
  refine wv rfl (r_assign rfl) ?_
  refine wl_nil ?_
  refine sq_n ?_
  refine wc_ret ?_
  obtain rfl := Option.some.inj hx
  refine fin_ret [(.bool c72)] ⟨rfl, trivial⟩ ?_
  replace hM := hM.t0
  have hM := hM.fewer rsN
  exact ⟨(), rfl, hM.gives⟩

noncomputable def x_impl_Diff_1 (x : Int) (y_ : Int) (p : List DPart) (px : List Int) (pxx : Int) : Option (List DPart × List Int × Int) :=
  Option.bind (bif decide (x = 1) then (some (decide (y_ = 1))) else (some false)) fun c8 => bif c8 then (xg (p.length < 1099511627776) <| xg (inI (pxx + y_)) <| some (p ++ [(⟨1, 1, []⟩ : DPart)], px, pxx + y_)) else (bif decide (x = 1) then (xg (p.length < 1099511627776) <| xg (inI (pxx + y_)) <| some (p ++ [(⟨3, 1, []⟩ : DPart)], px, pxx + y_)) else (xg (0 ≤ pxx ∧ pxx < (px.length : Int)) <| xg (p.length + [(⟨2, 0, [el px pxx.toNat]⟩ : DPart)].length ≤ 1099511627776) <| xg (inI (pxx + y_)) <| some (p ++ [(⟨2, 0, [el px pxx.toNat]⟩ : DPart)], px, pxx + y_)))
theorem ct_impl_Diff_1 (w : World) (X S : Bs) (x : Int) (y_ : Int) (b_p : Nat) (p : List DPart) (s_p : Sv) (b_px : Nat) (px : List Int) (s_px : Sv) (b_pxx : Nat) (pxx : Int) (hS : ∀ b, S b → b < w.heap.size ∧ ¬ X b) (a_px_0 : (cSl 1 fI px).rd S w s_px.v) (oL : Sep [oBox b_p #[s_p.v] 29, oC (cSl 3 fDPart p) s_p.v, oBox b_px #[s_px.v] 26, oBox b_pxx #[(.int .i64 pxx)] 3] X w) {r : List DPart × List Int × Int} (hx : x_impl_Diff_1 x y_ p px pxx = some r) :
    Ret Try.prog 63 [(.int .i64 x), (.int .i64 y_), (.pointer (some ⟨b_p, 0, none⟩)), (.pointer (some ⟨b_px, 0, none⟩)), (.pointer (some ⟨b_pxx, 0, none⟩))] w (fun u w' => ∃ y : Sv × Sv, u = .tuple #[] ∧ Gives X S w [oBox b_p #[y.1.v] 29, oC (cSl 3 fDPart r.1) y.1.v, oBox b_px #[y.2.v] 26, oBox b_pxx #[(.int .i64 r.2.2)] 3] [rV y.2.v (cSl 1 fI r.2.1)] w') := by
  unfold x_impl_Diff_1 at hx
  refine enter Try.func63 rfl Try.ntmps63 (by kernel_rfl) rfl ?_
  have hM := St.enter oL hS
  have hM := hM.addE (r := rV s_px.v (cSl 1 fI px)) a_px_0
  refine wc_seq ?_
  refine wc_block ?_
  refine wc_seq ?_
  refine wc_region ?_
  refine wv rfl (r_move rfl) ?_
  refine wv rfl (r_eql rfl rfl) ?_
  refine wv rfl (r_move rfl) ?_
  obtain ⟨c87, hx, hx91⟩ := bind_some' hx
  refine wl_mid 3 (fun _ : Unit => [(22, (.bool c87)), (0, (.int .i64 x)), (1, (.int .i64 y_)), (2, (.pointer (some ⟨b_p, 0, none⟩))), (3, (.pointer (some ⟨b_px, 0, none⟩))), (4, (.pointer (some ⟨b_pxx, 0, none⟩)))]) (fun _ w' => St ⟨w, X, S⟩ [oBox b_p #[s_p.v] 29, oC (cSl 3 fDPart p) s_p.v, oBox b_px #[s_px.v] 26, oBox b_pxx #[(.int .i64 pxx)] 3] [rV s_px.v (cSl 1 fI px)] w') ?_ ?_
  · rcases Bool.eq_false_or_eq_true (decide (x = 1)) with hg88 | hg88
    · replace hx := xif_t hg88 hx
      refine gv rfl hg88 rfl (r_move rfl) ?_
      refine gv rfl hg88 rfl (r_eql rfl rfl) ?_
      refine wv rfl (p_t rfl hg88 rfl) ?_
      obtain rfl := Option.some.inj hx
      exact mid_nil () ⟨rfl, rfl, rfl, rfl, rfl, rfl, trivial⟩ hM
    · replace hx := xif_f hg88 hx
      refine gs rfl (isB_no hg88) rfl ?_
      refine gs rfl (isB_no hg88) rfl ?_
      refine wv rfl (p_f rfl hg88 rfl) ?_
      obtain rfl := Option.some.inj hx
      exact mid_nil () ⟨rfl, rfl, rfl, rfl, rfl, rfl, trivial⟩ hM
  rintro _ w94 hM
  replace hx := hx91
  refine wv rfl (r_assign rfl) ?_
  refine wl_nil ?_
  refine sq_n ?_
  refine wc_cond rfl (fun hc96 => ?_) (fun hc96 => ?_)
  · replace hx := xif_t hc96 hx
    refine wc_region ?_
    refine wv rfl (r_ldB Try.underlying29 rfl rfl hM (.head _) rfl) ?_
    refine wv rfl (r_build (cells := #[(.int .i64 1), (.int .i64 1), (.slice none 0 0)]) rfl (by kernel_rfl)) ?_
    replace hM := hM.p1
    obtain ⟨hg102, hx⟩ := xg_some hx
    refine w_push (f := fDPart) (⟨1, 1, []⟩ : DPart) rfl rfl Try.underlying29 sz77 rfl rfl rfl rfl (fun _ => rfl) hM (fun _ => zP (pV _ rfl) (zP (pV _ rfl) (zP (pN _ _) zN))) rfl hg102 rfl ?_; intro u100 s101 w99 hM
    replace hM := hM.p1
    refine w_exu (x_stB #[s101.v] sz29 rfl rfl rfl rfl rfl rfl hM ?_); intro w103 hM
    refine wl_nil ?_
    refine bk_n ?_
    refine sq_n ?_
    refine wc_region ?_
    refine wv rfl (r_ldB Try.underlying3 rfl rfl hM (.tail _ (.tail _ (.tail _ (.head _)))) rfl) ?_
    refine wv rfl (r_move rfl) ?_
    obtain ⟨hg108, hx⟩ := xg_some hx
    refine wv rfl (r_add rfl rfl hg108) ?_
    replace hM := hM.p3
    refine w_exu (x_stB #[(.int .i64 (pxx + y_))] sz3 rfl rfl rfl rfl rfl rfl hM ?_); intro w109 hM
    refine wl_nil ?_
    obtain rfl := Option.some.inj hx
    refine fin_end [] trivial ?_
    replace hM := hM.p3.p3.p3
    replace hM := hM.t4
    have hM := hM.fewer (rsC (.head _) rsN)
    exact ⟨(s101, s_px), rfl, hM.gives⟩
  · replace hx := xif_f hc96 hx
    refine wc_seq ?_
    refine wc_region ?_
    refine wv rfl (r_move rfl) ?_
    refine wv rfl (r_eql rfl rfl) ?_
    refine wv rfl (r_assign rfl) ?_
    refine wl_nil ?_
    refine sq_n ?_
    refine wc_cond rfl (fun hc114 => ?_) (fun hc114 => ?_)
    · replace hx := xif_t hc114 hx
      refine wc_region ?_
      refine wv rfl (r_ldB Try.underlying29 rfl rfl hM (.head _) rfl) ?_
      refine wv rfl (r_build (cells := #[(.int .i64 3), (.int .i64 1), (.slice none 0 0)]) rfl (by kernel_rfl)) ?_
      replace hM := hM.p1
      obtain ⟨hg120, hx⟩ := xg_some hx
      refine w_push (f := fDPart) (⟨3, 1, []⟩ : DPart) rfl rfl Try.underlying29 sz77 rfl rfl rfl rfl (fun _ => rfl) hM (fun _ => zP (pV _ rfl) (zP (pV _ rfl) (zP (pN _ _) zN))) rfl hg120 rfl ?_; intro u118 s119 w117 hM
      replace hM := hM.p1
      refine w_exu (x_stB #[s119.v] sz29 rfl rfl rfl rfl rfl rfl hM ?_); intro w121 hM
      refine wl_nil ?_
      refine bk_n ?_
      refine sq_n ?_
      refine wc_region ?_
      refine wv rfl (r_ldB Try.underlying3 rfl rfl hM (.tail _ (.tail _ (.tail _ (.head _)))) rfl) ?_
      refine wv rfl (r_move rfl) ?_
      obtain ⟨hg126, hx⟩ := xg_some hx
      refine wv rfl (r_add rfl rfl hg126) ?_
      replace hM := hM.p3
      refine w_exu (x_stB #[(.int .i64 (pxx + y_))] sz3 rfl rfl rfl rfl rfl rfl hM ?_); intro w127 hM
      refine wl_nil ?_
      obtain rfl := Option.some.inj hx
      refine fin_end [] trivial ?_
      replace hM := hM.p3.p3.p3
      replace hM := hM.t4
      have hM := hM.fewer (rsC (.head _) rsN)
      exact ⟨(s119, s_px), rfl, hM.gives⟩
    · replace hx := xif_f hc114 hx
      refine wc_draw [(0, 0), (1, 0), (2, 0), (3, 0), (4, 0), (5, 1), (6, 0), (7, 1), (8, 2), (9, 2)] Try_mixed (by kernel_rfl) rfl (by kernel_rfl) rfl ?_
      refine ov rfl (fun w' h' => r_ldB Try.underlying29 rfl rfl (hM.call h') (.head _) rfl) ?_
      refine ov rfl (fun w' h' => r_ldB Try.underlying26 rfl rfl (hM.call h') (.tail _ (.tail _ (.head _))) rfl) ?_
      refine ov rfl (fun w' h' => r_ldB Try.underlying3 rfl rfl (hM.call h') (.tail _ (.tail _ (.tail _ (.head _)))) rfl) ?_
      obtain ⟨hg134, hx⟩ := xg_some hx
      have hi133 : pxx.toNat < px.length := by omega
      refine ov rfl (fun w' h' => r_ixC Try.underlying26 sz3 rfl rfl ((hM.call h').seeR (.head _)) hg134) ?_
      refine ov rfl (fun w' h' => r_ld Try.underlying3 rfl rfl (Cs.get (i := pxx.toNat) (j := 0) ((hM.call h').seeR (.head _)) (fun _ => rfl) hi133 rfl)) ?_
      refine o_ex1 rfl fun w139 h140 => ?_
      have hM := hM.call h140
      refine x_lit (f := fI) (own := []) [el px pxx.toNat] [(.int .i64 (el px pxx.toNat))] 1 Try.underlying26 sz3 (fun _ => rfl) rfl rfl rfl rfl rfl (by kernel_rfl) (fun _ => zP (pV _ rfl) zN) hM ?_; intro s137 w136 hR138 hM
      refine ⟨hR138, ?_⟩
      refine ov rfl (fun w' h' => r_build (cells := #[(.int .i64 2), (.int .i64 0), s137.v]) rfl (by kernel_rfl)) ?_
      refine o_ex1 rfl fun w146 h147 => ?_
      have hM := hM.call h147
      refine x_lit (f := fDPart) (own := [oC (cSl 1 fI [el px pxx.toNat]) s137.v]) [(⟨2, 0, [el px pxx.toNat]⟩ : DPart)] [(.int .i64 2), (.int .i64 0), s137.v] 1 Try.underlying29 sz77 (fun _ => rfl) rfl rfl rfl rfl rfl (by kernel_rfl) (fun _ => zP (pV _ rfl) (zP (pV _ rfl) (zO zN))) hM ?_; intro s144 w143 hR145 hM
      refine ⟨hR145, ?_⟩
      replace hM := hM.p2
      obtain ⟨hg151, hx⟩ := xg_some hx
      refine o_ex rfl fun w153 h154 => ?_
      have hM := hM.call h154
      refine x_appendO Try.underlying29 sz77 rfl rfl hM hg151 rfl ?_; intro s150 w149 hM
      replace hM := hM.p1
      refine o_exu fun w157 h158 => ?_
      have hM := hM.call h158
      refine x_stB #[s150.v] sz29 rfl rfl rfl rfl rfl rfl hM ?_; intro w155 hM
      refine o_nil fun w159 hw160 => ?_
      have hM := hM.call hw160
      refine bk_n ?_
      refine sq_n ?_
      refine wc_region ?_
      refine wv rfl (r_ldB Try.underlying3 rfl rfl hM (.tail _ (.tail _ (.tail _ (.head _)))) rfl) ?_
      refine wv rfl (r_move rfl) ?_
      obtain ⟨hg164, hx⟩ := xg_some hx
      refine wv rfl (r_add rfl rfl hg164) ?_
      replace hM := hM.p3
      refine w_exu (x_stB #[(.int .i64 (pxx + y_))] sz3 rfl rfl rfl rfl rfl rfl hM ?_); intro w165 hM
      refine wl_nil ?_
      obtain rfl := Option.some.inj hx
      refine fin_end [] trivial ?_
      replace hM := hM.p3.p3.p3
      replace hM := hM.t4
      have hM := hM.fewer (rsC (.head _) rsN)
      exact ⟨(s150, s_px), rfl, hM.gives⟩

noncomputable def x_impl_align_b0 (b : List Int) (k41 : Nat) (l42 : List (List Int)) : Option (Lr (List (List Int)) (List (List Int))) :=
  xg (inI ((b.length : Int) + 1)) <| xg (0 ≤ ((b.length : Int) + 1) ∧ ((b.length : Int) + 1) ≤ 1099511627776) <| xg (0 ≤ (k41 : Int) ∧ (k41 : Int) < (l42.length : Int)) <| some (Lr.go (l42.set k41 (List.replicate (((b.length : Int) + 1).toNat) 0)))
noncomputable def x_impl_align_f0 (b : List Int) (k41 : Nat) (s89 : List (List Int)) : Option (Lr (List (List Int)) (List (List Int))) := x_impl_align_b0 b k41 s89
noncomputable def x_impl_align_b2 (i461 : Int) (a : List Int) (b : List Int) (j950 : Int) (l951 : List (List Int)) : Option (Lr (Int × List (List Int)) (List (List Int))) :=
  bif decide ((0 : Int) ≤ j950) then (xg (0 ≤ i461 ∧ i461 < (a.length : Int)) <| xg (0 ≤ j950 ∧ j950 < (b.length : Int)) <| bif decide ((el a i461.toNat) = (el b j950.toNat)) then (xg (0 ≤ i461 ∧ i461 < (l951.length : Int)) <| xg (inI (i461 + 1)) <| xg (0 ≤ (i461 + 1) ∧ (i461 + 1) < (l951.length : Int)) <| xg (inI (j950 + 1)) <| xg (0 ≤ (j950 + 1) ∧ (j950 + 1) < ((el l951 ((i461 + 1).toNat)).length : Int)) <| xg (inI ((el (el l951 ((i461 + 1).toNat)) ((j950 + 1).toNat)) + 1)) <| xg (0 ≤ j950 ∧ j950 < ((el l951 i461.toNat).length : Int)) <| xg (inI (j950 - 1)) <| some (Lr.go (j950 - 1, l951.set i461.toNat ((el l951 i461.toNat).set j950.toNat ((el (el l951 ((i461 + 1).toNat)) ((j950 + 1).toNat)) + 1))))) else (xg (0 ≤ i461 ∧ i461 < (l951.length : Int)) <| xg (inI (i461 + 1)) <| xg (0 ≤ (i461 + 1) ∧ (i461 + 1) < (l951.length : Int)) <| xg (0 ≤ j950 ∧ j950 < ((el l951 ((i461 + 1).toNat)).length : Int)) <| xg (0 ≤ i461 ∧ i461 < (l951.length : Int)) <| xg (inI (j950 + 1)) <| xg (0 ≤ (j950 + 1) ∧ (j950 + 1) < ((el l951 i461.toNat).length : Int)) <| xg (0 ≤ j950 ∧ j950 < ((el l951 i461.toNat).length : Int)) <| xg (inI (j950 - 1)) <| some (Lr.go (j950 - 1, l951.set i461.toNat ((el l951 i461.toNat).set j950.toNat (max (el (el l951 ((i461 + 1).toNat)) j950.toNat) (el (el l951 i461.toNat) ((j950 + 1).toNat)))))))) else (some (Lr.out l951))
noncomputable def x_impl_align_f2 (i461 : Int) (a : List Int) (b : List Int) (s1183 : Int × List (List Int)) : Option (Lr (Int × List (List Int)) (List (List Int))) := x_impl_align_b2 i461 a b s1183.1 s1183.2
noncomputable def x_impl_align_b1 (b : List Int) (a : List Int) (i461 : Int) (l462 : List (List Int)) : Option (Lr (Int × List (List Int)) (List (List Int))) :=
  bif decide ((0 : Int) ≤ i461) then (xg (inI ((b.length : Int) - 1)) <| Option.bind (iter (x_impl_align_f2 i461 a b) ((b.length : Int) - 1, l462)) fun (y1184 : List (List Int)) => xg (inI (i461 - 1)) <| some (Lr.go (i461 - 1, y1184))) else (some (Lr.out l462))
noncomputable def x_impl_align_f1 (b : List Int) (a : List Int) (s1190 : Int × List (List Int)) : Option (Lr (Int × List (List Int)) (List (List Int))) := x_impl_align_b1 b a s1190.1 s1190.2
noncomputable def x_impl_align_b3 (a : List Int) (b : List Int) (y1191 : List (List Int)) (i1441 : Int) (j1442 : Int) (l1443 : List DPart) (l1444 : List Int) (n1445 : Int) : Option (Lr (Int × Int × List DPart × List Int × Int) (List DPart × List Int × Int)) :=
  Option.bind (bif decide (i1441 < (a.length : Int)) then (some true) else (some (decide (j1442 < (b.length : Int))))) fun c1697 => bif c1697 then (Option.bind (bif decide (i1441 < (a.length : Int)) then (some (decide (j1442 < (b.length : Int)))) else (some false)) fun c1712 => Option.bind (bif c1712 then (xg (0 ≤ i1441 ∧ i1441 < (a.length : Int)) <| xg (0 ≤ j1442 ∧ j1442 < (b.length : Int)) <| some (decide ((el a i1441.toNat) = (el b j1442.toNat)))) else (some false)) fun c1723 => bif c1723 then (Option.bind (x_impl_Diff_1 1 1 l1443 l1444 n1445) fun r1755 => xg (inI (i1441 + 1)) <| xg (inI (j1442 + 1)) <| some (Lr.go (i1441 + 1, j1442 + 1, r1755.1, r1755.2.1, r1755.2.2))) else (Option.bind (bif decide (j1442 = (b.length : Int)) then (some true) else (Option.bind (bif decide (i1441 < (a.length : Int)) then (xg (inI (i1441 + 1)) <| xg (0 ≤ (i1441 + 1) ∧ (i1441 + 1) < (y1191.length : Int)) <| xg (0 ≤ j1442 ∧ j1442 < ((el y1191 ((i1441 + 1).toNat)).length : Int)) <| xg (0 ≤ i1441 ∧ i1441 < (y1191.length : Int)) <| xg (inI (j1442 + 1)) <| xg (0 ≤ (j1442 + 1) ∧ (j1442 + 1) < ((el y1191 i1441.toNat).length : Int)) <| some (decide ((el (el y1191 i1441.toNat) ((j1442 + 1).toNat)) ≤ (el (el y1191 ((i1441 + 1).toNat)) j1442.toNat)))) else (some false)) fun c1849 => some c1849)) fun c1773 => bif c1773 then (Option.bind (x_impl_Diff_1 1 0 l1443 l1444 n1445) fun r1917 => xg (inI (i1441 + 1)) <| some (Lr.go (i1441 + 1, j1442, r1917.1, r1917.2.1, r1917.2.2))) else (Option.bind (x_impl_Diff_1 0 1 l1443 l1444 n1445) fun r1927 => xg (inI (j1442 + 1)) <| some (Lr.go (i1441, j1442 + 1, r1927.1, r1927.2.1, r1927.2.2))))) else (some (Lr.out (l1443, l1444, n1445)))
noncomputable def x_impl_align_f3 (a : List Int) (b : List Int) (y1191 : List (List Int)) (s1936 : Int × Int × List DPart × List Int × Int) : Option (Lr (Int × Int × List DPart × List Int × Int) (List DPart × List Int × Int)) := x_impl_align_b3 a b y1191 s1936.1 s1936.2.1 s1936.2.2.1 s1936.2.2.2.1 s1936.2.2.2.2
noncomputable def x_impl_align (a : List Int) (b : List Int) (c : List DPart) (cx : List Int) (cxx : Int) : Option (List DPart × List Int × Int) :=
  xg (inI ((a.length : Int) + 1)) <| xg (0 ≤ ((a.length : Int) + 1) ∧ ((a.length : Int) + 1) ≤ 1099511627776) <| Option.bind (eachN (x_impl_align_f0 b) (fun (s89 : List (List Int)) => (s89 : List (List Int))) (List.replicate (((a.length : Int) + 1).toNat) ([] : List Int)).length 0 (List.replicate (((a.length : Int) + 1).toNat) ([] : List Int))) fun (y90 : List (List Int)) => xg (inI ((a.length : Int) - 1)) <| Option.bind (iter (x_impl_align_f1 b a) ((a.length : Int) - 1, y90)) fun (y1191 : List (List Int)) => Option.bind (iter (x_impl_align_f3 a b y1191) (0, 0, c, cx, cxx)) fun (y1937 : List DPart × List Int × Int) => some (y1937.1, y1937.2.1, y1937.2.2)
theorem ct_impl_align (w : World) (X S : Bs) (a : List Int) (s_a : Sv) (b : List Int) (s_b : Sv) (b_c : Nat) (c : List DPart) (s_c : Sv) (b_cx : Nat) (cx : List Int) (s_cx : Sv) (b_cxx : Nat) (cxx : Int) (hS : ∀ b, S b → b < w.heap.size ∧ ¬ X b) (a_a_0 : (cSl 1 fI a).rd S w s_a.v) (a_b_0 : (cSl 1 fI b).rd S w s_b.v) (a_cx_0 : (cSl 1 fI cx).rd S w s_cx.v) (oL : Sep [oBox b_c #[s_c.v] 29, oC (cSl 3 fDPart c) s_c.v, oBox b_cx #[s_cx.v] 26, oBox b_cxx #[(.int .i64 cxx)] 3] X w) {r : List DPart × List Int × Int} (hx : x_impl_align a b c cx cxx = some r) :
    Ret Try.prog 62 [s_a.v, s_b.v, (.func (.func 63) #[] #[(.pointer (some ⟨b_c, 0, none⟩)), (.pointer (some ⟨b_cx, 0, none⟩)), (.pointer (some ⟨b_cxx, 0, none⟩))])] w (fun u w' => ∃ y : Sv × Sv, u = .tuple #[] ∧ Gives X S w [oBox b_c #[y.1.v] 29, oC (cSl 3 fDPart r.1) y.1.v, oBox b_cx #[y.2.v] 26, oBox b_cxx #[(.int .i64 r.2.2)] 3] [rV y.2.v (cSl 1 fI r.2.1)] w') := by
  unfold x_impl_align at hx
  refine enter Try.func62 rfl Try.ntmps62 (by kernel_rfl) rfl ?_
  have hM := St.enter oL hS
  have hM := hM.addE (r := rV s_a.v (cSl 1 fI a)) a_a_0
  have hM := hM.addE (r := rV s_b.v (cSl 1 fI b)) a_b_0
  have hM := hM.addE (r := rV s_cx.v (cSl 1 fI cx)) a_cx_0
  refine wc_seq ?_
  refine wc_region ?_
  refine wv rfl (r_move rfl) ?_
  refine wv rfl (r_lenC Try.underlying26 rfl (hM.seeR (.tail _ (.tail _ (.head _))))) ?_
  obtain ⟨hg1943, hx⟩ := xg_some hx
  refine wv rfl (r_add rfl rfl hg1943) ?_
  obtain ⟨hg1946, hx⟩ := xg_some hx
  have hk1947 : (a.length : Int) + 1 = (((a.length : Int) + 1).toNat : Int) := by omega
  refine w_ex rfl (x_make (f := fLI) (k := (((a.length : Int) + 1).toNat)) ([] : List Int) Try.underlying116 sz26 (fun _ => rfl) (fun _ => zP (pN _ _) zN) (by rw [← hk1947]; rfl) (by omega) rfl hM ?_); intro s1945 w1944 hR1948 hM
  refine wv rfl (r_assign rfl) ?_
  refine wl_nil ?_
  refine sq_n ?_
  refine wc_seq ?_
  refine wc_seq ?_
  refine wc_region ?_
  refine wv rfl (r_move rfl) ?_
  refine wv rfl (r_lenC Try.underlying116 rfl (hM.seeO (.head _))) ?_
  refine wv rfl (r_move rfl) ?_
  refine wl_nil ?_
  refine sq_n ?_
  refine wc_block ?_
  obtain ⟨y1954, hx, hx1955⟩ := bind_some' hx
  replace hM := hM.p4.p4.p4.p4
  have hM := hM.fewer (rsC (.tail _ (.tail _ (.head _))) (rsC (.tail _ (.head _)) (rsC (.head _) rsN)))
  replace hM : St ⟨w, X, S⟩ [oBox b_c #[s_c.v] 29, oC (cSl 3 fDPart c) s_c.v, oBox b_cx #[s_cx.v] 26, oBox b_cxx #[(.int .i64 cxx)] 3, oC (cSl 1 fLI (List.replicate (((a.length : Int) + 1).toNat) ([] : List Int))) s1945.v] [rV s_a.v (cSl 1 fI a), rV s_b.v (cSl 1 fI b), rV s_cx.v (cSl 1 fI cx)] _ := hM
  have hl1960 := Cs.le (hM.seeO (.tail _ (.tail _ (.tail _ (.tail _ (.head _))))))
  refine wc_loop (un fun (m1957 : Nat) => un fun (k1958 : Nat) => fun (l1956 : List (List Int)) => [(0, s_a.v), (1, s_b.v), (2, (.func (.func 63) #[] #[(.pointer (some ⟨b_c, 0, none⟩)), (.pointer (some ⟨b_cx, 0, none⟩)), (.pointer (some ⟨b_cxx, 0, none⟩))])), (6, s1945.v), (17, (.int .i64 ((List.replicate (((a.length : Int) + 1).toNat) ([] : List Int)).length : Int))), (18, (.int .i64 (k1958 : Int)))]) (un fun (m1957 : Nat) => un fun (k1958 : Nat) => fun (l1956 : List (List Int)) w' => St ⟨w, X, S⟩ [oBox b_c #[s_c.v] 29, oC (cSl 3 fDPart c) s_c.v, oBox b_cx #[s_cx.v] 26, oBox b_cxx #[(.int .i64 cxx)] 3, oC (cSl 1 fLI l1956) s1945.v] [rV s_a.v (cSl 1 fI a), rV s_b.v (cSl 1 fI b), rV s_cx.v (cSl 1 fI cx)] w' ∧ eachN _ _ m1957 k1958 l1956 = some y1954 ∧ k1958 + m1957 = (List.replicate (((a.length : Int) + 1).toNat) ([] : List Int)).length) (fun p => p.1) ((List.replicate (((a.length : Int) + 1).toNat) ([] : List Int)).length, 0, List.replicate (((a.length : Int) + 1).toNat) ([] : List Int)) ⟨rfl, rfl, rfl, rfl, rfl, rfl, trivial⟩ ⟨hM, hx, Nat.zero_add _⟩ ?_
  rintro ⟨m1957, k1958, l1956⟩ w1961 ⟨hM, hx, hk1959⟩
  refine wc_seq ?_
  refine wc_region ?_
  refine wv rfl (r_lss rfl rfl) ?_
  refine wl_nil ?_
  refine sq_n ?_
  refine wc_seq ?_
  refine wc_cond rfl (fun hc1963 => ?_) (fun hc1963 => ?_)
  · replace hc1963 := of_decide_eq_true hc1963
    obtain ⟨m1964, z1965, rfl, hk1959, hx, hx1966⟩ := eachN_step hx hk1959 hc1963
    unfold x_impl_align_f0 x_impl_align_b0 at hx
    try dsimp only at hx
    refine wc_skip ?_
    refine sq_n ?_
    refine wc_seq ?_
    refine wc_block ?_
    refine wc_seq ?_
    refine wc_region ?_
    refine wv rfl (r_move rfl) ?_
    refine wv rfl (r_assign rfl) ?_
    refine wl_nil ?_
    refine sq_n ?_
    refine wc_region ?_
    refine wv rfl (r_move rfl) ?_
    refine wv rfl (r_move rfl) ?_
    refine wv rfl (r_move rfl) ?_
    refine wv rfl (r_lenC Try.underlying26 rfl (hM.seeR (.tail _ (.head _)))) ?_
    obtain ⟨hg1974, hx⟩ := xg_some hx
    refine wv rfl (r_add rfl rfl hg1974) ?_
    obtain ⟨hg1977, hx⟩ := xg_some hx
    have hk1978 : (b.length : Int) + 1 = (((b.length : Int) + 1).toNat : Int) := by omega
    refine w_ex rfl (x_make (f := fI) (k := (((b.length : Int) + 1).toNat)) 0 Try.underlying26 sz3 (fun _ => rfl) (fun _ => zP (pV _ rfl) zN) (by rw [← hk1978]; rfl) (by omega) rfl hM ?_); intro s1976 w1975 hR1979 hM
    obtain ⟨hg1983, hx⟩ := xg_some hx
    have hi1982 : k1958 < l1956.length := by omega
    refine wv rfl (r_ixC Try.underlying116 sz26 rfl rfl (hM.seeO (.tail _ (.tail _ (.tail _ (.tail _ (.tail _ (.head _))))))) hg1983) ?_
    replace hM := hM.p5
    refine w_exu (x_stE (f := fLI) (k := 1) (L := l1956) (i := k1958) (j := 0) (List.replicate (((b.length : Int) + 1).toNat) 0) [cSl 1 fI (List.replicate (((b.length : Int) + 1).toNat) 0)] sz26 (fun _ => rfl) rfl rfl hi1982 rfl rfl rfl rfl rfl (fun _ => zO zN) hM ?_); intro w1984 hM
    refine wl_nil ?_
    refine bk_n ?_
    refine sq_n ?_
    refine wc_region ?_
    refine wv rfl (r_add rfl rfl ⟨by omega, by omega⟩) ?_
    refine wv rfl (r_move rfl) ?_
    refine wl_nil ?_
    obtain rfl := Option.some.inj hx
    replace hM := hM.p4.p4.p4.p4
    exact lp_end (m1964, k1958 + 1, l1956.set k1958 (List.replicate (((b.length : Int) + 1).toNat) 0)) (Nat.lt_succ_self _) ⟨rfl, rfl, rfl, rfl, rfl, rfl, trivial⟩ ⟨hM, hx1966, hk1959⟩
  · replace hc1963 := of_decide_eq_false hc1963
    obtain rfl := eachN_end hx hk1959 hc1963
    refine wc_exit ?_
    refine sq_exit ?_
    refine lp1_exit ?_
    replace hx := hx1955
    try dsimp only [Sum.elim_inl, Sum.elim_inr] at hx
    refine bk_here ?_
    refine sq_n ?_
    refine wc_seq ?_
    refine wc_seq ?_
    refine wc_region ?_
    refine wv rfl (r_move rfl) ?_
    refine wv rfl (r_lenC Try.underlying26 rfl (hM.seeR (.head _))) ?_
    obtain ⟨hg1991, hx⟩ := xg_some hx
    refine wv rfl (r_sub rfl rfl hg1991) ?_
    refine wv rfl (r_assign rfl) ?_
    refine wl_nil ?_
    refine sq_n ?_
    refine wc_block ?_
    obtain ⟨y1993, hx, hx1994⟩ := bind_some' hx
    obtain ⟨m2000, hx⟩ := iter_run hx
    refine wc_loop (un fun (m1998 : Nat) => un fun (i1995 : Int) => un fun (l1996 : List (List Int)) => fun (s1997 : Sv) => [(0, s_a.v), (1, s_b.v), (2, (.func (.func 63) #[] #[(.pointer (some ⟨b_c, 0, none⟩)), (.pointer (some ⟨b_cx, 0, none⟩)), (.pointer (some ⟨b_cxx, 0, none⟩))])), (6, s1997.v), (8, (.int .i64 i1995))]) (un fun (m1998 : Nat) => un fun (i1995 : Int) => un fun (l1996 : List (List Int)) => fun (s1997 : Sv) w' => St ⟨w, X, S⟩ [oBox b_c #[s_c.v] 29, oC (cSl 3 fDPart c) s_c.v, oBox b_cx #[s_cx.v] 26, oBox b_cxx #[(.int .i64 cxx)] 3, oC (cSl 1 fLI l1996) s1997.v] [rV s_a.v (cSl 1 fI a), rV s_b.v (cSl 1 fI b), rV s_cx.v (cSl 1 fI cx)] w' ∧ iterN _ m1998 (i1995, l1996) = some y1993) (fun p => p.1) (m2000, (a.length : Int) - 1, l1956, s1945) ⟨rfl, rfl, rfl, rfl, rfl, trivial⟩ ⟨hM, hx⟩ ?_
    rintro ⟨m1998, i1995, l1996, s1997⟩ w2001 ⟨hM, hx⟩
    obtain ⟨m2002, z2003, rfl, hx, hx2004⟩ := iterN_step hx
    unfold x_impl_align_f1 x_impl_align_b1 at hx
    try dsimp only at hx
    refine wc_seq ?_
    refine wc_seq ?_
    refine wc_region ?_
    refine wv rfl (r_move rfl) ?_
    refine wv rfl (r_geq rfl rfl) ?_
    refine wl_nil ?_
    refine sq_n ?_
    refine wc_cond rfl (fun hc2007 => ?_) (fun hc2007 => ?_)
    · replace hx := xif_t hc2007 hx
      refine wc_skip ?_
      refine sq_n ?_
      refine wc_seq ?_
      refine wc_block ?_
      refine wc_seq ?_
      refine wc_region ?_
      refine wv rfl (r_move rfl) ?_
      refine wv rfl (r_lenC Try.underlying26 rfl (hM.seeR (.tail _ (.head _)))) ?_
      obtain ⟨hg2011, hx⟩ := xg_some hx
      refine wv rfl (r_sub rfl rfl hg2011) ?_
      refine wv rfl (r_assign rfl) ?_
      refine wl_nil ?_
      refine sq_n ?_
      refine wc_block ?_
      obtain ⟨y2013, hx, hx2014⟩ := bind_some' hx
      obtain ⟨m2019, hx⟩ := iter_run hx
      refine wc_loop (un fun (m2017 : Nat) => un fun (j2015 : Int) => fun (l2016 : List (List Int)) => [(0, s_a.v), (1, s_b.v), (2, (.func (.func 63) #[] #[(.pointer (some ⟨b_c, 0, none⟩)), (.pointer (some ⟨b_cx, 0, none⟩)), (.pointer (some ⟨b_cxx, 0, none⟩))])), (6, s1997.v), (8, (.int .i64 i1995)), (9, (.int .i64 j2015))]) (un fun (m2017 : Nat) => un fun (j2015 : Int) => fun (l2016 : List (List Int)) w' => St ⟨w, X, S⟩ [oBox b_c #[s_c.v] 29, oC (cSl 3 fDPart c) s_c.v, oBox b_cx #[s_cx.v] 26, oBox b_cxx #[(.int .i64 cxx)] 3, oC (cSl 1 fLI l2016) s1997.v] [rV s_a.v (cSl 1 fI a), rV s_b.v (cSl 1 fI b), rV s_cx.v (cSl 1 fI cx)] w' ∧ iterN _ m2017 (j2015, l2016) = some y2013) (fun p => p.1) (m2019, (b.length : Int) - 1, l1996) ⟨rfl, rfl, rfl, rfl, rfl, rfl, trivial⟩ ⟨hM, hx⟩ ?_
      rintro ⟨m2017, j2015, l2016⟩ w2020 ⟨hM, hx⟩
      obtain ⟨m2021, z2022, rfl, hx, hx2023⟩ := iterN_step hx
      unfold x_impl_align_f2 x_impl_align_b2 at hx
      try dsimp only at hx
      refine wc_seq ?_
      refine wc_seq ?_
      refine wc_region ?_
      refine wv rfl (r_move rfl) ?_
      refine wv rfl (r_geq rfl rfl) ?_
      refine wl_nil ?_
      refine sq_n ?_
      refine wc_cond rfl (fun hc2026 => ?_) (fun hc2026 => ?_)
      · replace hx := xif_t hc2026 hx
        refine wc_skip ?_
        refine sq_n ?_
        refine wc_seq ?_
        refine wc_block ?_
        refine wc_seq ?_
        refine wc_draw [(0, 0), (1, 0), (2, 0), (3, 0), (4, 0), (5, 0), (6, 0), (7, 0), (8, 0)] Try_mixed (by kernel_rfl) rfl (by kernel_rfl) rfl ?_
        refine ov rfl (fun w' h' => r_move rfl) ?_
        refine ov rfl (fun w' h' => r_move rfl) ?_
        obtain ⟨hg2031, hx⟩ := xg_some hx
        have hi2030 : i1995.toNat < a.length := by omega
        refine ov rfl (fun w' h' => r_ixC Try.underlying26 sz3 rfl rfl ((hM.call h').seeR (.head _)) hg2031) ?_
        refine ov rfl (fun w' h' => r_ld Try.underlying3 rfl rfl (Cs.get (i := i1995.toNat) (j := 0) ((hM.call h').seeR (.head _)) (fun _ => rfl) hi2030 rfl)) ?_
        refine ov rfl (fun w' h' => r_move rfl) ?_
        refine ov rfl (fun w' h' => r_move rfl) ?_
        obtain ⟨hg2037, hx⟩ := xg_some hx
        have hi2036 : j2015.toNat < b.length := by omega
        refine ov rfl (fun w' h' => r_ixC Try.underlying26 sz3 rfl rfl ((hM.call h').seeR (.tail _ (.head _))) hg2037) ?_
        refine ov rfl (fun w' h' => r_ld Try.underlying3 rfl rfl (Cs.get (i := j2015.toNat) (j := 0) ((hM.call h').seeR (.tail _ (.head _))) (fun _ => rfl) hi2036 rfl)) ?_
        refine ov rfl (fun w' h' => r_eql rfl rfl) ?_
        refine o_nil fun w2040 hw2041 => ?_
        have hM := hM.call hw2041
        refine sq_n ?_
        refine wc_cond rfl (fun hc2042 => ?_) (fun hc2042 => ?_)
        · replace hx := xif_t hc2042 hx
          refine wc_draw [(0, 0), (1, 0), (2, 0), (3, 0), (4, 0), (5, 0), (6, 0), (7, 0), (8, 0), (9, 0), (10, 0), (11, 0), (12, 0), (13, 0), (14, 0), (15, 0), (16, 2)] Try_mixed (by kernel_rfl) rfl (by kernel_rfl) rfl ?_
          refine ov rfl (fun w' h' => r_move rfl) ?_
          refine ov rfl (fun w' h' => r_move rfl) ?_
          obtain ⟨hg2047, hx⟩ := xg_some hx
          have hi2046 : i1995.toNat < l2016.length := by omega
          refine ov rfl (fun w' h' => r_ixC Try.underlying116 sz26 rfl rfl ((hM.call h').seeO (.tail _ (.tail _ (.tail _ (.tail _ (.head _)))))) hg2047) ?_
          replace hM := hM.p4
          obtain ⟨s2049, hM, hc2050⟩ := hM.leafO (i := i1995.toNat) (j := 0) (fun _ => rfl) hi2046 rfl
          refine ov rfl (fun w' h' => r_ld Try.underlying26 rfl rfl (hc2050 w' h')) ?_
          refine ov rfl (fun w' h' => r_move rfl) ?_
          refine ov rfl (fun w' h' => r_move rfl) ?_
          refine ov rfl (fun w' h' => r_move rfl) ?_
          obtain ⟨hg2055, hx⟩ := xg_some hx
          refine ov rfl (fun w' h' => r_add rfl rfl hg2055) ?_
          obtain ⟨hg2058, hx⟩ := xg_some hx
          have hi2057 : ((i1995 + 1).toNat) < l2016.length := by omega
          refine ov rfl (fun w' h' => r_ixC Try.underlying116 sz26 rfl rfl ((hM.call h').seeOV (.head _)) hg2058) ?_
          obtain ⟨s2060, hM, hc2061⟩ := hM.leafV (i := ((i1995 + 1).toNat)) (j := 0) (fun _ => rfl) hi2057 rfl
          refine ov rfl (fun w' h' => r_ld Try.underlying26 rfl rfl (hc2061 w' h')) ?_
          refine ov rfl (fun w' h' => r_move rfl) ?_
          obtain ⟨hg2064, hx⟩ := xg_some hx
          refine ov rfl (fun w' h' => r_add rfl rfl hg2064) ?_
          obtain ⟨hg2067, hx⟩ := xg_some hx
          have hi2066 : ((j2015 + 1).toNat) < (el l2016 ((i1995 + 1).toNat)).length := by omega
          refine ov rfl (fun w' h' => r_ixC Try.underlying26 sz3 rfl rfl ((hM.call h').seeV (.head _) (.head _)) hg2067) ?_
          refine ov rfl (fun w' h' => r_ld Try.underlying3 rfl rfl (Cs.get (i := ((j2015 + 1).toNat)) (j := 0) ((hM.call h').seeV (.head _) (.head _)) (fun _ => rfl) hi2066 rfl)) ?_
          obtain ⟨hg2070, hx⟩ := xg_some hx
          refine ov rfl (fun w' h' => r_add rfl rfl hg2070) ?_
          obtain ⟨hg2073, hx⟩ := xg_some hx
          have hi2072 : j2015.toNat < (el l2016 i1995.toNat).length := by omega
          refine ov rfl (fun w' h' => r_ixC Try.underlying26 sz3 rfl rfl ((hM.call h').seeV (.head _) (.tail _ (.tail _ (.head _)))) hg2073) ?_
          have hM := hM.open (i := i1995.toNat) (j := 0) (.tail _ (.tail _ (.tail _ (.head _)))) (fun _ => rfl) hi2046 rfl
          refine o_exu fun w2078 h2079 => ?_
          have hM := hM.call h2079
          refine x_stE (f := fI) (k := 1) (L := (el l2016 i1995.toNat)) (i := j2015.toNat) (j := 0) ((el (el l2016 ((i1995 + 1).toNat)) ((j2015 + 1).toNat)) + 1) [cI ((el (el l2016 ((i1995 + 1).toNat)) ((j2015 + 1).toNat)) + 1)] sz3 (fun _ => rfl) rfl rfl hi2072 rfl rfl rfl rfl rfl (fun _ => zP (pV _ rfl) zN) hM ?_; intro w2074 hM
          have hM := hM.close (i := i1995.toNat) (j := 0) ((el l2016 i1995.toNat).set j2015.toNat ((el (el l2016 ((i1995 + 1).toNat)) ((j2015 + 1).toNat)) + 1)) (fun _ => rfl) hi2046 rfl rfl
          refine o_nil fun w2080 hw2081 => ?_
          have hM := hM.call hw2081
          refine bk_n ?_
          refine sq_n ?_
          refine wc_region ?_
          refine wv rfl (r_move rfl) ?_
          obtain ⟨hg2084, hx⟩ := xg_some hx
          refine wv rfl (r_sub rfl rfl hg2084) ?_
          refine wv rfl (r_assign rfl) ?_
          refine wl_nil ?_
          obtain rfl := Option.some.inj hx
          replace hM := hM.p4.p4.p4.p4
          exact lp_end (m2021, j2015 - 1, l2016.set i1995.toNat ((el l2016 i1995.toNat).set j2015.toNat ((el (el l2016 ((i1995 + 1).toNat)) ((j2015 + 1).toNat)) + 1))) (Nat.lt_succ_self _) ⟨rfl, rfl, rfl, rfl, rfl, rfl, trivial⟩ ⟨hM, hx2023⟩
        · replace hx := xif_f hc2042 hx
          refine wc_draw [(0, 0), (1, 0), (2, 0), (3, 0), (4, 0), (5, 0), (6, 0), (7, 0), (8, 0), (9, 0), (10, 0), (11, 0), (12, 0), (13, 0), (14, 0), (15, 0), (16, 0), (17, 0), (18, 0), (19, 0), (20, 0), (21, 0), (22, 0), (23, 2)] Try_mixed (by kernel_rfl) rfl (by kernel_rfl) rfl ?_
          refine ov rfl (fun w' h' => r_move rfl) ?_
          refine ov rfl (fun w' h' => r_move rfl) ?_
          obtain ⟨hg2090, hx⟩ := xg_some hx
          have hi2089 : i1995.toNat < l2016.length := by omega
          refine ov rfl (fun w' h' => r_ixC Try.underlying116 sz26 rfl rfl ((hM.call h').seeO (.tail _ (.tail _ (.tail _ (.tail _ (.head _)))))) hg2090) ?_
          replace hM := hM.p4
          obtain ⟨s2092, hM, hc2093⟩ := hM.leafO (i := i1995.toNat) (j := 0) (fun _ => rfl) hi2089 rfl
          refine ov rfl (fun w' h' => r_ld Try.underlying26 rfl rfl (hc2093 w' h')) ?_
          refine ov rfl (fun w' h' => r_move rfl) ?_
          refine ov rfl (fun w' h' => r_move rfl) ?_
          refine ov rfl (fun w' h' => r_move rfl) ?_
          obtain ⟨hg2098, hx⟩ := xg_some hx
          refine ov rfl (fun w' h' => r_add rfl rfl hg2098) ?_
          obtain ⟨hg2101, hx⟩ := xg_some hx
          have hi2100 : ((i1995 + 1).toNat) < l2016.length := by omega
          refine ov rfl (fun w' h' => r_ixC Try.underlying116 sz26 rfl rfl ((hM.call h').seeOV (.head _)) hg2101) ?_
          obtain ⟨s2103, hM, hc2104⟩ := hM.leafV (i := ((i1995 + 1).toNat)) (j := 0) (fun _ => rfl) hi2100 rfl
          refine ov rfl (fun w' h' => r_ld Try.underlying26 rfl rfl (hc2104 w' h')) ?_
          refine ov rfl (fun w' h' => r_move rfl) ?_
          obtain ⟨hg2108, hx⟩ := xg_some hx
          have hi2107 : j2015.toNat < (el l2016 ((i1995 + 1).toNat)).length := by omega
          refine ov rfl (fun w' h' => r_ixC Try.underlying26 sz3 rfl rfl ((hM.call h').seeV (.head _) (.head _)) hg2108) ?_
          refine ov rfl (fun w' h' => r_ld Try.underlying3 rfl rfl (Cs.get (i := j2015.toNat) (j := 0) ((hM.call h').seeV (.head _) (.head _)) (fun _ => rfl) hi2107 rfl)) ?_
          refine ov rfl (fun w' h' => r_move rfl) ?_
          refine ov rfl (fun w' h' => r_move rfl) ?_
          obtain ⟨hg2114, hx⟩ := xg_some hx
          have hi2113 : i1995.toNat < l2016.length := by omega
          refine ov rfl (fun w' h' => r_ixC Try.underlying116 sz26 rfl rfl ((hM.call h').seeOV (.head _)) hg2114) ?_
          obtain ⟨s2116, hM, hc2117⟩ := hM.leafV (i := i1995.toNat) (j := 0) (fun _ => rfl) hi2113 rfl
          refine ov rfl (fun w' h' => r_ld Try.underlying26 rfl rfl (hc2117 w' h')) ?_
          refine ov rfl (fun w' h' => r_move rfl) ?_
          obtain ⟨hg2120, hx⟩ := xg_some hx
          refine ov rfl (fun w' h' => r_add rfl rfl hg2120) ?_
          obtain ⟨hg2123, hx⟩ := xg_some hx
          have hi2122 : ((j2015 + 1).toNat) < (el l2016 i1995.toNat).length := by omega
          refine ov rfl (fun w' h' => r_ixC Try.underlying26 sz3 rfl rfl ((hM.call h').seeV (.head _) (.head _)) hg2123) ?_
          refine ov rfl (fun w' h' => r_ld Try.underlying3 rfl rfl (Cs.get (i := ((j2015 + 1).toNat)) (j := 0) ((hM.call h').seeV (.head _) (.head _)) (fun _ => rfl) hi2122 rfl)) ?_
          refine ov rfl (fun w' h' => r_max Try.underlying3 rfl rfl) ?_
          obtain ⟨hg2128, hx⟩ := xg_some hx
          have hi2127 : j2015.toNat < (el l2016 i1995.toNat).length := by omega
          refine ov rfl (fun w' h' => r_ixC Try.underlying26 sz3 rfl rfl ((hM.call h').seeV (.head _) (.tail _ (.tail _ (.tail _ (.tail _ (.head _)))))) hg2128) ?_
          have hM := hM.open (i := i1995.toNat) (j := 0) (.tail _ (.tail _ (.tail _ (.tail _ (.tail _ (.head _)))))) (fun _ => rfl) hi2089 rfl
          refine o_exu fun w2133 h2134 => ?_
          have hM := hM.call h2134
          refine x_stE (f := fI) (k := 1) (L := (el l2016 i1995.toNat)) (i := j2015.toNat) (j := 0) (max (el (el l2016 ((i1995 + 1).toNat)) j2015.toNat) (el (el l2016 i1995.toNat) ((j2015 + 1).toNat))) [cI (max (el (el l2016 ((i1995 + 1).toNat)) j2015.toNat) (el (el l2016 i1995.toNat) ((j2015 + 1).toNat)))] sz3 (fun _ => rfl) rfl rfl hi2127 rfl rfl rfl rfl rfl (fun _ => zP (pV _ rfl) zN) hM ?_; intro w2129 hM
          have hM := hM.close (i := i1995.toNat) (j := 0) ((el l2016 i1995.toNat).set j2015.toNat (max (el (el l2016 ((i1995 + 1).toNat)) j2015.toNat) (el (el l2016 i1995.toNat) ((j2015 + 1).toNat)))) (fun _ => rfl) hi2089 rfl rfl
          refine o_nil fun w2135 hw2136 => ?_
          have hM := hM.call hw2136
          refine bk_n ?_
          refine sq_n ?_
          refine wc_region ?_
          refine wv rfl (r_move rfl) ?_
          obtain ⟨hg2139, hx⟩ := xg_some hx
          refine wv rfl (r_sub rfl rfl hg2139) ?_
          refine wv rfl (r_assign rfl) ?_
          refine wl_nil ?_
          obtain rfl := Option.some.inj hx
          replace hM := hM.p4.p4.p4.p4
          exact lp_end (m2021, j2015 - 1, l2016.set i1995.toNat ((el l2016 i1995.toNat).set j2015.toNat (max (el (el l2016 ((i1995 + 1).toNat)) j2015.toNat) (el (el l2016 i1995.toNat) ((j2015 + 1).toNat))))) (Nat.lt_succ_self _) ⟨rfl, rfl, rfl, rfl, rfl, rfl, trivial⟩ ⟨hM, hx2023⟩
      · replace hx := xif_f hc2026 hx
        refine wc_exit ?_
        refine sq_exit ?_
        refine lp1_exit ?_
        obtain rfl := Option.some.inj hx
        obtain rfl := Option.some.inj hx2023
        replace hx := hx2014
        try dsimp only [Sum.elim_inl, Sum.elim_inr] at hx
        refine bk_here ?_
        refine bk_n ?_
        refine sq_n ?_
        refine wc_region ?_
        refine wv rfl (r_move rfl) ?_
        obtain ⟨hg2143, hx⟩ := xg_some hx
        refine wv rfl (r_sub rfl rfl hg2143) ?_
        refine wv rfl (r_assign rfl) ?_
        refine wl_nil ?_
        obtain rfl := Option.some.inj hx
        exact lp_end (m2002, i1995 - 1, l2016, s1997) (Nat.lt_succ_self _) ⟨rfl, rfl, rfl, rfl, rfl, trivial⟩ ⟨hM, hx2004⟩
    · replace hx := xif_f hc2007 hx
      refine wc_exit ?_
      refine sq_exit ?_
      refine lp1_exit ?_
      obtain rfl := Option.some.inj hx
      obtain rfl := Option.some.inj hx2004
      replace hx := hx1994
      try dsimp only [Sum.elim_inl, Sum.elim_inr] at hx
      refine bk_here ?_
      refine sq_n ?_
      refine wc_seq ?_
      refine wc_region ?_
      refine wv rfl (r_assign rfl) ?_
      refine wv rfl (r_assign rfl) ?_
      refine wl_nil ?_
      refine sq_n ?_
      refine wc_block ?_
      obtain ⟨y2147, hx, hx2148⟩ := bind_some' hx
      have hM := hM.fewer (rsC (.tail _ (.tail _ (.head _))) (rsC (.head _) (rsC (.tail _ (.head _)) rsN)))
      replace hM : St ⟨w, X, S⟩ [oBox b_c #[s_c.v] 29, oC (cSl 3 fDPart c) s_c.v, oBox b_cx #[s_cx.v] 26, oBox b_cxx #[(.int .i64 cxx)] 3, oC (cSl 1 fLI l1996) s1997.v] [rV s_cx.v (cSl 1 fI cx), rV s_a.v (cSl 1 fI a), rV s_b.v (cSl 1 fI b)] _ := hM
      obtain ⟨m2158, hx⟩ := iter_run hx
      refine wc_loop (un fun (m2156 : Nat) => un fun (i2149 : Int) => un fun (j2150 : Int) => un fun (l2151 : List DPart) => un fun (l2152 : List Int) => un fun (n2153 : Int) => un fun (s2154 : Sv) => fun (s2155 : Sv) => [(0, s_a.v), (1, s_b.v), (2, (.func (.func 63) #[] #[(.pointer (some ⟨b_c, 0, none⟩)), (.pointer (some ⟨b_cx, 0, none⟩)), (.pointer (some ⟨b_cxx, 0, none⟩))])), (6, s1997.v), (10, (.int .i64 i2149)), (11, (.int .i64 j2150))]) (un fun (m2156 : Nat) => un fun (i2149 : Int) => un fun (j2150 : Int) => un fun (l2151 : List DPart) => un fun (l2152 : List Int) => un fun (n2153 : Int) => un fun (s2154 : Sv) => fun (s2155 : Sv) w' => St ⟨w, X, S⟩ [oBox b_c #[s2154.v] 29, oC (cSl 3 fDPart l2151) s2154.v, oBox b_cx #[s2155.v] 26, oBox b_cxx #[(.int .i64 n2153)] 3, oC (cSl 1 fLI l1996) s1997.v] [rV s2155.v (cSl 1 fI l2152), rV s_a.v (cSl 1 fI a), rV s_b.v (cSl 1 fI b)] w' ∧ iterN _ m2156 (i2149, j2150, l2151, l2152, n2153) = some y2147) (fun p => p.1) (m2158, 0, 0, c, cx, cxx, s_c, s_cx) ⟨rfl, rfl, rfl, rfl, rfl, rfl, trivial⟩ ⟨hM, hx⟩ ?_
      rintro ⟨m2156, i2149, j2150, l2151, l2152, n2153, s2154, s2155⟩ w2159 ⟨hM, hx⟩
      obtain ⟨m2160, z2161, rfl, hx, hx2162⟩ := iterN_step hx
      unfold x_impl_align_f3 x_impl_align_b3 at hx
      try dsimp only at hx
      refine wc_seq ?_
      refine wc_seq ?_
      refine wc_region ?_
      refine wv rfl (r_move rfl) ?_
      refine wv rfl (r_move rfl) ?_
      refine wv rfl (r_lenC Try.underlying26 rfl (hM.seeR (.tail _ (.head _)))) ?_
      refine wv rfl (r_lss rfl rfl) ?_
      refine wv rfl (r_move rfl) ?_
      obtain ⟨c2168, hx, hx2174⟩ := bind_some' hx
      refine wl_mid 5 (fun _ : Unit => [(100, (.bool c2168)), (0, s_a.v), (1, s_b.v), (2, (.func (.func 63) #[] #[(.pointer (some ⟨b_c, 0, none⟩)), (.pointer (some ⟨b_cx, 0, none⟩)), (.pointer (some ⟨b_cxx, 0, none⟩))])), (6, s1997.v), (10, (.int .i64 i2149)), (11, (.int .i64 j2150))]) (fun _ w' => St ⟨w, X, S⟩ [oBox b_c #[s2154.v] 29, oC (cSl 3 fDPart l2151) s2154.v, oBox b_cx #[s2155.v] 26, oBox b_cxx #[(.int .i64 n2153)] 3, oC (cSl 1 fLI l1996) s1997.v] [rV s2155.v (cSl 1 fI l2152), rV s_a.v (cSl 1 fI a), rV s_b.v (cSl 1 fI b)] w') ?_ ?_
      · rcases Bool.eq_false_or_eq_true (decide (i2149 < (a.length : Int))) with hg2169 | hg2169
        · replace hx := xif_t hg2169 hx
          refine gs rfl (isB_no hg2169) rfl ?_
          refine gs rfl (isB_no hg2169) rfl ?_
          refine gs rfl (isB_no hg2169) rfl ?_
          refine gs rfl (isB_no hg2169) rfl ?_
          refine wv rfl (p_t rfl hg2169 rfl) ?_
          obtain rfl := Option.some.inj hx
          exact mid_nil () ⟨rfl, rfl, rfl, rfl, rfl, rfl, rfl, trivial⟩ hM
        · replace hx := xif_f hg2169 hx
          refine gv rfl hg2169 rfl (r_move rfl) ?_
          refine gv rfl hg2169 rfl (r_move rfl) ?_
          refine gv rfl hg2169 rfl (r_lenC Try.underlying26 rfl (hM.seeR (.tail _ (.tail _ (.head _))))) ?_
          refine gv rfl hg2169 rfl (r_lss rfl rfl) ?_
          refine wv rfl (p_f rfl hg2169 rfl) ?_
          obtain rfl := Option.some.inj hx
          exact mid_nil () ⟨rfl, rfl, rfl, rfl, rfl, rfl, rfl, trivial⟩ hM
      rintro _ w2179 hM
      replace hx := hx2174
      refine wl_nil ?_
      refine sq_n ?_
      refine wc_cond rfl (fun hc2180 => ?_) (fun hc2180 => ?_)
      · replace hx := xif_t hc2180 hx
        refine wc_skip ?_
        refine sq_n ?_
        refine wc_block ?_
        refine wc_block ?_
        refine wc_seq ?_
        refine wc_draw [(0, 0), (1, 0), (2, 0), (3, 0), (4, 0), (5, 0), (6, 0), (7, 0), (8, 0), (9, 0), (10, 0), (11, 0), (12, 0), (13, 0), (14, 0), (15, 0), (16, 0), (17, 0), (18, 0), (19, 0), (20, 0), (21, 0)] Try_mixed (by kernel_rfl) rfl (by kernel_rfl) rfl ?_
        refine ov rfl (fun w' h' => r_move rfl) ?_
        refine ov rfl (fun w' h' => r_move rfl) ?_
        refine ov rfl (fun w' h' => r_lenC Try.underlying26 rfl ((hM.call h').seeR (.tail _ (.head _)))) ?_
        refine ov rfl (fun w' h' => r_lss rfl rfl) ?_
        refine ov rfl (fun w' h' => r_move rfl) ?_
        obtain ⟨c2186, hx, hx2192⟩ := bind_some' hx
        refine wo_mid 5 [(115, (.bool c2186)), (0, s_a.v), (1, s_b.v), (2, (.func (.func 63) #[] #[(.pointer (some ⟨b_c, 0, none⟩)), (.pointer (some ⟨b_cx, 0, none⟩)), (.pointer (some ⟨b_cxx, 0, none⟩))])), (6, s1997.v), (10, (.int .i64 i2149)), (11, (.int .i64 j2150))] rfl ?_ ?_
        · rcases Bool.eq_false_or_eq_true (decide (i2149 < (a.length : Int))) with hg2187 | hg2187
          · replace hx := xif_t hg2187 hx
            refine ogv rfl hg2187 rfl (fun w' h' => r_move rfl) ?_
            refine ogv rfl hg2187 rfl (fun w' h' => r_move rfl) ?_
            refine ogv rfl hg2187 rfl (fun w' h' => r_lenC Try.underlying26 rfl ((hM.call h').seeR (.tail _ (.tail _ (.head _))))) ?_
            refine ogv rfl hg2187 rfl (fun w' h' => r_lss rfl rfl) ?_
            refine ov rfl (fun w' h' => p_t rfl hg2187 rfl) ?_
            obtain rfl := Option.some.inj hx
            exact mid_onil ⟨rfl, rfl, rfl, rfl, rfl, rfl, rfl, trivial⟩
          · replace hx := xif_f hg2187 hx
            refine ogs rfl (isB_no hg2187) rfl ?_
            refine ogs rfl (isB_no hg2187) rfl ?_
            refine ogs rfl (isB_no hg2187) rfl ?_
            refine ogs rfl (isB_no hg2187) rfl ?_
            refine ov rfl (fun w' h' => p_f rfl hg2187 rfl) ?_
            obtain rfl := Option.some.inj hx
            exact mid_onil ⟨rfl, rfl, rfl, rfl, rfl, rfl, rfl, trivial⟩
        replace hx := hx2192
        refine ov rfl (fun w' h' => r_move rfl) ?_
        obtain ⟨c2198, hx, hx2213⟩ := bind_some' hx
        refine wo_mid 10 [(126, (.bool c2198)), (0, s_a.v), (1, s_b.v), (2, (.func (.func 63) #[] #[(.pointer (some ⟨b_c, 0, none⟩)), (.pointer (some ⟨b_cx, 0, none⟩)), (.pointer (some ⟨b_cxx, 0, none⟩))])), (6, s1997.v), (10, (.int .i64 i2149)), (11, (.int .i64 j2150))] rfl ?_ ?_
        · rcases Bool.eq_false_or_eq_true c2186 with hg2199 | hg2199
          · replace hx := xif_t hg2199 hx
            refine ogv rfl hg2199 rfl (fun w' h' => r_move rfl) ?_
            refine ogv rfl hg2199 rfl (fun w' h' => r_move rfl) ?_
            obtain ⟨hg2218, hx⟩ := xg_some hx
            have hi2217 : i2149.toNat < a.length := by omega
            refine ogv rfl hg2199 rfl (fun w' h' => r_ixC Try.underlying26 sz3 rfl rfl ((hM.call h').seeR (.tail _ (.head _))) hg2218) ?_
            refine ogv rfl hg2199 rfl (fun w' h' => r_ld Try.underlying3 rfl rfl (Cs.get (i := i2149.toNat) (j := 0) ((hM.call h').seeR (.tail _ (.head _))) (fun _ => rfl) hi2217 rfl)) ?_
            refine ogv rfl hg2199 rfl (fun w' h' => r_move rfl) ?_
            refine ogv rfl hg2199 rfl (fun w' h' => r_move rfl) ?_
            obtain ⟨hg2224, hx⟩ := xg_some hx
            have hi2223 : j2150.toNat < b.length := by omega
            refine ogv rfl hg2199 rfl (fun w' h' => r_ixC Try.underlying26 sz3 rfl rfl ((hM.call h').seeR (.tail _ (.tail _ (.head _)))) hg2224) ?_
            refine ogv rfl hg2199 rfl (fun w' h' => r_ld Try.underlying3 rfl rfl (Cs.get (i := j2150.toNat) (j := 0) ((hM.call h').seeR (.tail _ (.tail _ (.head _)))) (fun _ => rfl) hi2223 rfl)) ?_
            refine ogv rfl hg2199 rfl (fun w' h' => r_eql rfl rfl) ?_
            refine ov rfl (fun w' h' => p_t rfl hg2199 rfl) ?_
            obtain rfl := Option.some.inj hx
            exact mid_onil ⟨rfl, rfl, rfl, rfl, rfl, rfl, rfl, trivial⟩
          · replace hx := xif_f hg2199 hx
            refine ogs rfl (isB_no hg2199) rfl ?_
            refine ogs rfl (isB_no hg2199) rfl ?_
            refine ogs rfl (isB_no hg2199) rfl ?_
            refine ogs rfl (isB_no hg2199) rfl ?_
            refine ogs rfl (isB_no hg2199) rfl ?_
            refine ogs rfl (isB_no hg2199) rfl ?_
            refine ogs rfl (isB_no hg2199) rfl ?_
            refine ogs rfl (isB_no hg2199) rfl ?_
            refine ogs rfl (isB_no hg2199) rfl ?_
            refine ov rfl (fun w' h' => p_f rfl hg2199 rfl) ?_
            obtain rfl := Option.some.inj hx
            exact mid_onil ⟨rfl, rfl, rfl, rfl, rfl, rfl, rfl, trivial⟩
        replace hx := hx2213
        refine ov rfl (fun w' h' => r_assign rfl) ?_
        refine o_nil fun w2228 hw2229 => ?_
        have hM := hM.call hw2229
        refine sq_n ?_
        refine wc_cond rfl (fun hc2230 => ?_) (fun hc2230 => ?_)
        · replace hx := xif_t hc2230 hx
          refine wc_seq ?_
          refine wc_region ?_
          refine wv rfl (r_move rfl) ?_
          obtain ⟨r2232, h2233, hx⟩ := bind_some' hx
          refine w_callv (cap := [(.pointer (some ⟨b_c, 0, none⟩)), (.pointer (some ⟨b_cx, 0, none⟩)), (.pointer (some ⟨b_cxx, 0, none⟩))]) rfl rfl rfl (hM.callR (l := [oBox b_c #[s2154.v] 29, oC (cSl 3 fDPart l2151) s2154.v, oBox b_cx #[s2155.v] 26, oBox b_cxx #[(.int .i64 n2153)] 3]) fun X S oL hS hR => ct_impl_Diff_1 _ X S (1 : Int) (1 : Int) b_c l2151 s2154 b_cx l2152 s2155 b_cxx n2153 hS (hR _ (.head _)) oL h2233) ?_
          rintro _ w2234 ⟨⟨s2235, s2236⟩, rfl, hM⟩
          replace hM : St ⟨w, X, S⟩ [oBox b_c #[s2235.v] 29, oC (cSl 3 fDPart r2232.1) s2235.v, oBox b_cx #[s2236.v] 26, oBox b_cxx #[(.int .i64 r2232.2.2)] 3, oC (cSl 1 fLI l1996) s1997.v] [rV s2236.v (cSl 1 fI r2232.2.1), rV s2155.v (cSl 1 fI l2152), rV s_a.v (cSl 1 fI a), rV s_b.v (cSl 1 fI b)] _ := hM
          refine wl_nil ?_
          refine sq_n ?_
          refine wc_seq ?_
          refine wc_region ?_
          refine wv rfl (r_move rfl) ?_
          obtain ⟨hg2239, hx⟩ := xg_some hx
          refine wv rfl (r_add rfl rfl hg2239) ?_
          refine wv rfl (r_assign rfl) ?_
          refine wl_nil ?_
          refine sq_n ?_
          refine wc_region ?_
          refine wv rfl (r_move rfl) ?_
          obtain ⟨hg2243, hx⟩ := xg_some hx
          refine wv rfl (r_add rfl rfl hg2243) ?_
          refine wv rfl (r_assign rfl) ?_
          refine wl_nil ?_
          refine bk_n ?_
          refine bk_n ?_
          obtain rfl := Option.some.inj hx
          have hM := hM.fewer (rsC (.head _) (rsC (.tail _ (.tail _ (.head _))) (rsC (.tail _ (.tail _ (.tail _ (.head _)))) rsN)))
          replace hM : St ⟨w, X, S⟩ [oBox b_c #[s2235.v] 29, oC (cSl 3 fDPart r2232.1) s2235.v, oBox b_cx #[s2236.v] 26, oBox b_cxx #[(.int .i64 r2232.2.2)] 3, oC (cSl 1 fLI l1996) s1997.v] [rV s2236.v (cSl 1 fI r2232.2.1), rV s_a.v (cSl 1 fI a), rV s_b.v (cSl 1 fI b)] _ := hM
          exact lp_end (m2160, i2149 + 1, j2150 + 1, r2232.1, r2232.2.1, r2232.2.2, s2235, s2236) (Nat.lt_succ_self _) ⟨rfl, rfl, rfl, rfl, rfl, rfl, trivial⟩ ⟨hM, hx2162⟩
        · replace hx := xif_f hc2230 hx
          refine wc_seq ?_
          refine wc_draw [(0, 0), (1, 0), (2, 0), (3, 0), (4, 0), (5, 0), (6, 0), (7, 0), (8, 0), (9, 0), (10, 0), (11, 0), (12, 0), (13, 0), (14, 0), (15, 0), (16, 0), (17, 0), (18, 0), (19, 0), (20, 0), (21, 0), (22, 0), (23, 0), (24, 0), (25, 0), (26, 0), (27, 0), (28, 0), (29, 0)] Try_mixed (by kernel_rfl) rfl (by kernel_rfl) rfl ?_
          refine ov rfl (fun w' h' => r_move rfl) ?_
          refine ov rfl (fun w' h' => r_move rfl) ?_
          refine ov rfl (fun w' h' => r_lenC Try.underlying26 rfl ((hM.call h').seeR (.tail _ (.tail _ (.head _))))) ?_
          refine ov rfl (fun w' h' => r_eql rfl rfl) ?_
          refine ov rfl (fun w' h' => r_move rfl) ?_
          obtain ⟨c2250, hx, hx2321⟩ := bind_some' hx
          refine wo_mid 24 [(162, (.bool c2250)), (0, s_a.v), (1, s_b.v), (2, (.func (.func 63) #[] #[(.pointer (some ⟨b_c, 0, none⟩)), (.pointer (some ⟨b_cx, 0, none⟩)), (.pointer (some ⟨b_cxx, 0, none⟩))])), (6, s1997.v), (10, (.int .i64 i2149)), (11, (.int .i64 j2150))] rfl ?_ ?_
          · rcases Bool.eq_false_or_eq_true (decide (j2150 = (b.length : Int))) with hg2251 | hg2251
            · replace hx := xif_t hg2251 hx
              refine ogs rfl (isB_no hg2251) rfl ?_
              refine ogs rfl (isB_no hg2251) rfl ?_
              refine ogs rfl (isB_no hg2251) rfl ?_
              refine ogs rfl (isB_no hg2251) rfl ?_
              refine ogs rfl (isB_no hg2251) rfl ?_
              refine ogs rfl rfl rfl ?_
              refine ogs rfl rfl rfl ?_
              refine ogs rfl rfl rfl ?_
              refine ogs rfl rfl rfl ?_
              refine ogs rfl rfl rfl ?_
              refine ogs rfl rfl rfl ?_
              refine ogs rfl rfl rfl ?_
              refine ogs rfl rfl rfl ?_
              refine ogs rfl rfl rfl ?_
              refine ogs rfl rfl rfl ?_
              refine ogs rfl rfl rfl ?_
              refine ogs rfl rfl rfl ?_
              refine ogs rfl rfl rfl ?_
              refine ogs rfl rfl rfl ?_
              refine ogs rfl rfl rfl ?_
              refine ogs rfl rfl rfl ?_
              refine ogs rfl rfl rfl ?_
              refine ogs rfl (isB_no hg2251) rfl ?_
              refine ov rfl (fun w' h' => p_t rfl hg2251 rfl) ?_
              obtain rfl := Option.some.inj hx
              exact mid_onil ⟨rfl, rfl, rfl, rfl, rfl, rfl, rfl, trivial⟩
            · replace hx := xif_f hg2251 hx
              refine ogv rfl hg2251 rfl (fun w' h' => r_move rfl) ?_
              refine ogv rfl hg2251 rfl (fun w' h' => r_move rfl) ?_
              refine ogv rfl hg2251 rfl (fun w' h' => r_lenC Try.underlying26 rfl ((hM.call h').seeR (.tail _ (.head _)))) ?_
              refine ogv rfl hg2251 rfl (fun w' h' => r_lss rfl rfl) ?_
              refine ogv rfl hg2251 rfl (fun w' h' => r_move rfl) ?_
              obtain ⟨c2327, hx, hx2360⟩ := bind_some' hx
              refine wo_mid 18 [(161, (.bool c2327)), (0, s_a.v), (1, s_b.v), (2, (.func (.func 63) #[] #[(.pointer (some ⟨b_c, 0, none⟩)), (.pointer (some ⟨b_cx, 0, none⟩)), (.pointer (some ⟨b_cxx, 0, none⟩))])), (6, s1997.v), (10, (.int .i64 i2149)), (11, (.int .i64 j2150)), (138, (.bool (decide (j2150 = (b.length : Int))))), (139, (.int .i64 i2149)), (140, s_a.v), (141, (.int .i64 (a.length : Int))), (142, (.bool (decide (i2149 < (a.length : Int))))), (143, (.bool (decide (i2149 < (a.length : Int)))))] rfl ?_ ?_
              · rcases Bool.eq_false_or_eq_true (decide (i2149 < (a.length : Int))) with hg2328 | hg2328
                · replace hx := xif_t hg2328 hx
                  refine ogv rfl hg2328 rfl (fun w' h' => r_move rfl) ?_
                  refine ogv rfl hg2328 rfl (fun w' h' => r_move rfl) ?_
                  obtain ⟨hg2364, hx⟩ := xg_some hx
                  refine ogv rfl hg2328 rfl (fun w' h' => r_add rfl rfl hg2364) ?_
                  obtain ⟨hg2367, hx⟩ := xg_some hx
                  have hi2366 : ((i2149 + 1).toNat) < l1996.length := by omega
                  refine ogv rfl hg2328 rfl (fun w' h' => r_ixC Try.underlying116 sz26 rfl rfl ((hM.call h').seeO (.tail _ (.tail _ (.tail _ (.tail _ (.head _)))))) hg2367) ?_
                  replace hM := hM.p4
                  obtain ⟨s2369, hM, hc2370⟩ := hM.leafO (i := ((i2149 + 1).toNat)) (j := 0) (fun _ => rfl) hi2366 rfl
                  refine ogv rfl hg2328 rfl (fun w' h' => r_ld Try.underlying26 rfl rfl (hc2370 w' h')) ?_
                  refine ogv rfl hg2328 rfl (fun w' h' => r_move rfl) ?_
                  obtain ⟨hg2374, hx⟩ := xg_some hx
                  have hi2373 : j2150.toNat < (el l1996 ((i2149 + 1).toNat)).length := by omega
                  refine ogv rfl hg2328 rfl (fun w' h' => r_ixC Try.underlying26 sz3 rfl rfl ((hM.call h').seeV (.head _) (.head _)) hg2374) ?_
                  refine ogv rfl hg2328 rfl (fun w' h' => r_ld Try.underlying3 rfl rfl (Cs.get (i := j2150.toNat) (j := 0) ((hM.call h').seeV (.head _) (.head _)) (fun _ => rfl) hi2373 rfl)) ?_
                  refine ogv rfl hg2328 rfl (fun w' h' => r_move rfl) ?_
                  refine ogv rfl hg2328 rfl (fun w' h' => r_move rfl) ?_
                  obtain ⟨hg2380, hx⟩ := xg_some hx
                  have hi2379 : i2149.toNat < l1996.length := by omega
                  refine ogv rfl hg2328 rfl (fun w' h' => r_ixC Try.underlying116 sz26 rfl rfl ((hM.call h').seeOV (.head _)) hg2380) ?_
                  obtain ⟨s2382, hM, hc2383⟩ := hM.leafV (i := i2149.toNat) (j := 0) (fun _ => rfl) hi2379 rfl
                  refine ogv rfl hg2328 rfl (fun w' h' => r_ld Try.underlying26 rfl rfl (hc2383 w' h')) ?_
                  refine ogv rfl hg2328 rfl (fun w' h' => r_move rfl) ?_
                  obtain ⟨hg2386, hx⟩ := xg_some hx
                  refine ogv rfl hg2328 rfl (fun w' h' => r_add rfl rfl hg2386) ?_
                  obtain ⟨hg2389, hx⟩ := xg_some hx
                  have hi2388 : ((j2150 + 1).toNat) < (el l1996 i2149.toNat).length := by omega
                  refine ogv rfl hg2328 rfl (fun w' h' => r_ixC Try.underlying26 sz3 rfl rfl ((hM.call h').seeV (.head _) (.head _)) hg2389) ?_
                  refine ogv rfl hg2328 rfl (fun w' h' => r_ld Try.underlying3 rfl rfl (Cs.get (i := ((j2150 + 1).toNat)) (j := 0) ((hM.call h').seeV (.head _) (.head _)) (fun _ => rfl) hi2388 rfl)) ?_
                  refine ogv rfl hg2328 rfl (fun w' h' => r_geq rfl rfl) ?_
                  refine ogv rfl hg2251 rfl (fun w' h' => p_t rfl hg2328 rfl) ?_
                  obtain rfl := Option.some.inj hx
                  exact mid_onil ⟨rfl, rfl, rfl, rfl, rfl, rfl, rfl, rfl, rfl, rfl, rfl, rfl, rfl, trivial⟩
                · replace hx := xif_f hg2328 hx
                  refine ogs rfl (isB_no hg2328) rfl ?_
                  refine ogs rfl (isB_no hg2328) rfl ?_
                  refine ogs rfl (isB_no hg2328) rfl ?_
                  refine ogs rfl (isB_no hg2328) rfl ?_
                  refine ogs rfl (isB_no hg2328) rfl ?_
                  refine ogs rfl (isB_no hg2328) rfl ?_
                  refine ogs rfl (isB_no hg2328) rfl ?_
                  refine ogs rfl (isB_no hg2328) rfl ?_
                  refine ogs rfl (isB_no hg2328) rfl ?_
                  refine ogs rfl (isB_no hg2328) rfl ?_
                  refine ogs rfl (isB_no hg2328) rfl ?_
                  refine ogs rfl (isB_no hg2328) rfl ?_
                  refine ogs rfl (isB_no hg2328) rfl ?_
                  refine ogs rfl (isB_no hg2328) rfl ?_
                  refine ogs rfl (isB_no hg2328) rfl ?_
                  refine ogs rfl (isB_no hg2328) rfl ?_
                  refine ogs rfl (isB_no hg2328) rfl ?_
                  refine ogv rfl hg2251 rfl (fun w' h' => p_f rfl hg2328 rfl) ?_
                  obtain rfl := Option.some.inj hx
                  exact mid_onil ⟨rfl, rfl, rfl, rfl, rfl, rfl, rfl, rfl, rfl, rfl, rfl, rfl, rfl, trivial⟩
              replace hx := hx2360
              refine ov rfl (fun w' h' => p_f rfl hg2251 rfl) ?_
              obtain rfl := Option.some.inj hx
              exact mid_onil ⟨rfl, rfl, rfl, rfl, rfl, rfl, rfl, trivial⟩
          replace hx := hx2321
          refine ov rfl (fun w' h' => r_assign rfl) ?_
          refine o_nil fun w2393 hw2394 => ?_
          have hM := hM.call hw2394
          refine sq_n ?_
          refine wc_cond rfl (fun hc2395 => ?_) (fun hc2395 => ?_)
          · replace hx := xif_t hc2395 hx
            refine wc_seq ?_
            refine wc_region ?_
            refine wv rfl (r_move rfl) ?_
            obtain ⟨r2397, h2398, hx⟩ := bind_some' hx
            refine w_callv (cap := [(.pointer (some ⟨b_c, 0, none⟩)), (.pointer (some ⟨b_cx, 0, none⟩)), (.pointer (some ⟨b_cxx, 0, none⟩))]) rfl rfl rfl (hM.callR (l := [oBox b_c #[s2154.v] 29, oC (cSl 3 fDPart l2151) s2154.v, oBox b_cx #[s2155.v] 26, oBox b_cxx #[(.int .i64 n2153)] 3]) fun X S oL hS hR => ct_impl_Diff_1 _ X S (1 : Int) (0 : Int) b_c l2151 s2154 b_cx l2152 s2155 b_cxx n2153 hS (hR _ (.head _)) oL h2398) ?_
            rintro _ w2399 ⟨⟨s2400, s2401⟩, rfl, hM⟩
            replace hM : St ⟨w, X, S⟩ [oBox b_c #[s2400.v] 29, oC (cSl 3 fDPart r2397.1) s2400.v, oBox b_cx #[s2401.v] 26, oBox b_cxx #[(.int .i64 r2397.2.2)] 3, oC (cSl 1 fLI l1996) s1997.v] [rV s2401.v (cSl 1 fI r2397.2.1), rV s2155.v (cSl 1 fI l2152), rV s_a.v (cSl 1 fI a), rV s_b.v (cSl 1 fI b)] _ := hM
            refine wl_nil ?_
            refine sq_n ?_
            refine wc_region ?_
            refine wv rfl (r_move rfl) ?_
            obtain ⟨hg2404, hx⟩ := xg_some hx
            refine wv rfl (r_add rfl rfl hg2404) ?_
            refine wv rfl (r_assign rfl) ?_
            refine wl_nil ?_
            refine bk_n ?_
            refine bk_n ?_
            obtain rfl := Option.some.inj hx
            have hM := hM.fewer (rsC (.head _) (rsC (.tail _ (.tail _ (.head _))) (rsC (.tail _ (.tail _ (.tail _ (.head _)))) rsN)))
            replace hM : St ⟨w, X, S⟩ [oBox b_c #[s2400.v] 29, oC (cSl 3 fDPart r2397.1) s2400.v, oBox b_cx #[s2401.v] 26, oBox b_cxx #[(.int .i64 r2397.2.2)] 3, oC (cSl 1 fLI l1996) s1997.v] [rV s2401.v (cSl 1 fI r2397.2.1), rV s_a.v (cSl 1 fI a), rV s_b.v (cSl 1 fI b)] _ := hM
            exact lp_end (m2160, i2149 + 1, j2150, r2397.1, r2397.2.1, r2397.2.2, s2400, s2401) (Nat.lt_succ_self _) ⟨rfl, rfl, rfl, rfl, rfl, rfl, trivial⟩ ⟨hM, hx2162⟩
          · replace hx := xif_f hc2395 hx
            refine wc_seq ?_
            refine wc_region ?_
            refine wv rfl (r_move rfl) ?_
            obtain ⟨r2407, h2408, hx⟩ := bind_some' hx
            refine w_callv (cap := [(.pointer (some ⟨b_c, 0, none⟩)), (.pointer (some ⟨b_cx, 0, none⟩)), (.pointer (some ⟨b_cxx, 0, none⟩))]) rfl rfl rfl (hM.callR (l := [oBox b_c #[s2154.v] 29, oC (cSl 3 fDPart l2151) s2154.v, oBox b_cx #[s2155.v] 26, oBox b_cxx #[(.int .i64 n2153)] 3]) fun X S oL hS hR => ct_impl_Diff_1 _ X S (0 : Int) (1 : Int) b_c l2151 s2154 b_cx l2152 s2155 b_cxx n2153 hS (hR _ (.head _)) oL h2408) ?_
            rintro _ w2409 ⟨⟨s2410, s2411⟩, rfl, hM⟩
            replace hM : St ⟨w, X, S⟩ [oBox b_c #[s2410.v] 29, oC (cSl 3 fDPart r2407.1) s2410.v, oBox b_cx #[s2411.v] 26, oBox b_cxx #[(.int .i64 r2407.2.2)] 3, oC (cSl 1 fLI l1996) s1997.v] [rV s2411.v (cSl 1 fI r2407.2.1), rV s2155.v (cSl 1 fI l2152), rV s_a.v (cSl 1 fI a), rV s_b.v (cSl 1 fI b)] _ := hM
            refine wl_nil ?_
            refine sq_n ?_
            refine wc_region ?_
            refine wv rfl (r_move rfl) ?_
            obtain ⟨hg2414, hx⟩ := xg_some hx
            refine wv rfl (r_add rfl rfl hg2414) ?_
            refine wv rfl (r_assign rfl) ?_
            refine wl_nil ?_
            refine bk_n ?_
            refine bk_n ?_
            obtain rfl := Option.some.inj hx
            have hM := hM.fewer (rsC (.head _) (rsC (.tail _ (.tail _ (.head _))) (rsC (.tail _ (.tail _ (.tail _ (.head _)))) rsN)))
            replace hM : St ⟨w, X, S⟩ [oBox b_c #[s2410.v] 29, oC (cSl 3 fDPart r2407.1) s2410.v, oBox b_cx #[s2411.v] 26, oBox b_cxx #[(.int .i64 r2407.2.2)] 3, oC (cSl 1 fLI l1996) s1997.v] [rV s2411.v (cSl 1 fI r2407.2.1), rV s_a.v (cSl 1 fI a), rV s_b.v (cSl 1 fI b)] _ := hM
            exact lp_end (m2160, i2149, j2150 + 1, r2407.1, r2407.2.1, r2407.2.2, s2410, s2411) (Nat.lt_succ_self _) ⟨rfl, rfl, rfl, rfl, rfl, rfl, trivial⟩ ⟨hM, hx2162⟩
      · replace hx := xif_f hc2180 hx
        refine wc_exit ?_
        refine sq_exit ?_
        refine lp1_exit ?_
        obtain rfl := Option.some.inj hx
        obtain rfl := Option.some.inj hx2162
        replace hx := hx2148
        try dsimp only [Sum.elim_inl, Sum.elim_inr] at hx
        refine bk_here ?_
        obtain rfl := Option.some.inj hx
        refine fin_end [] trivial ?_
        replace hM := hM.t4
        have hM := hM.fewer (rsC (.head _) rsN)
        exact ⟨(s2154, s2155), rfl, hM.gives⟩

noncomputable def x_impl_Diff (a : List Int) (b : List Int) : Option (List DPart × Bool) :=
  Option.bind (x_impl_diffOk a b) fun r9 => bif !r9 then (some ([], false)) else (Option.bind (x_impl_align a b [] b 0) fun r30 => Option.bind (x_impl_OpNorm r30.1) fun r36 => some (r36, true))
theorem ct_impl_Diff (w : World) (X S : Bs) (a : List Int) (s_a : Sv) (b : List Int) (s_b : Sv) (hS : ∀ b, S b → b < w.heap.size ∧ ¬ X b) (a_a_0 : (cSl 1 fI a).rd S w s_a.v) (a_b_0 : (cSl 1 fI b).rd S w s_b.v) (oL : Sep [] X w) {r : List DPart × Bool} (hx : x_impl_Diff a b = some r) :
    Ret Try.prog 24 [s_a.v, s_b.v] w (fun u w' => ∃ y : Sv, u = .tuple #[y.v, (.bool r.2)] ∧ Gives X S w [oC (cSl 3 fDPart r.1) y.v] [] w') := by
  unfold x_impl_Diff at hx
  refine enter Try.func24 rfl Try.ntmps24 (by kernel_rfl) rfl ?_
  have hM := St.enter oL hS
  have hM := hM.addE (r := rV s_a.v (cSl 1 fI a)) a_a_0
  have hM := hM.addE (r := rV s_b.v (cSl 1 fI b)) a_b_0
  refine wc_seq ?_
  refine wc_region ?_
  refine w_ex rfl (x_box rfl hM ?_); intro b44 w43 hR45 hM
  replace hM : St ⟨w, X, S⟩ [oBox b44 #[s_b.v] 26] [rV s_b.v (cSl 1 fI b), rV s_a.v (cSl 1 fI a)] _ := hM
  refine wv rfl (r_assign rfl) ?_
  refine wv rfl (r_assign rfl) ?_
  refine wl_nil ?_
  refine sq_n ?_
  refine wc_seq ?_
  refine wc_seq ?_
  refine wc_region ?_
  refine wv rfl (r_move rfl) ?_
  refine wv rfl (r_ldB Try.underlying26 rfl rfl hM (.head _) rfl) ?_
  obtain ⟨r51, h52, hx⟩ := bind_some' hx
  refine w_call rfl rfl (hM.callV fun X S oL hS hR hO => ct_impl_diffOk _ X S a s_a b s_b hS (hR _ (.tail _ (.head _))) (hR _ (.head _)) oL h52) ?_
  rintro _ w53 ⟨rfl, hR54⟩
  have hM := hM.call hR54
  refine wv rfl (r_not rfl) ?_
  refine wl_nil ?_
  refine sq_n ?_
  refine wc_cond rfl (fun hc56 => ?_) (fun hc56 => ?_)
  · replace hx := xif_t hc56 hx
    refine wc_seq ?_
    refine wc_region ?_
    refine wv rfl (r_assign rfl) ?_
    refine wv rfl (r_assign rfl) ?_
    refine wl_nil ?_
    refine sq_n ?_
    refine wc_ret ?_
    refine sq_ret ?_
    obtain rfl := Option.some.inj hx
    have hM := hM.nil0 (T := DPart) 3 fDPart
    refine fin_ret [nS.v, (.bool false)] ⟨rfl, rfl, trivial⟩ ?_
    replace hM := hM.t1
    have hM := hM.fewer rsN
    exact ⟨nS, rfl, hM.gives⟩
  · replace hx := xif_f hc56 hx
    refine wc_skip ?_
    refine sq_n ?_
    refine wc_seq ?_
    refine wc_region ?_
    refine w_ex rfl (x_alloc sz29 hM ?_); intro b61 w60 hR62 hM
    replace hM : St ⟨w, X, S⟩ [oBox b61 #[(.slice none 0 0)] 29, oBox b44 #[s_b.v] 26] [rV s_b.v (cSl 1 fI b), rV s_a.v (cSl 1 fI a)] _ := hM
    refine wl_nil ?_
    refine sq_n ?_
    refine wc_seq ?_
    refine wc_region ?_
    refine w_ex rfl (x_alloc sz3 hM ?_); intro b65 w64 hR66 hM
    replace hM : St ⟨w, X, S⟩ [oBox b65 #[(.int .i64 0)] 3, oBox b61 #[(.slice none 0 0)] 29, oBox b44 #[s_b.v] 26] [rV s_b.v (cSl 1 fI b), rV s_a.v (cSl 1 fI a)] _ := hM
    refine w_exu (x_stB #[(.int .i64 0)] sz3 rfl rfl rfl rfl rfl rfl hM ?_); intro w68 hM
    refine wl_nil ?_
    refine sq_n ?_
    refine wc_seq ?_
    refine wc_region ?_
    refine wv rfl (r_move rfl) ?_
    refine wv rfl (r_ldB Try.underlying26 rfl rfl hM (.tail _ (.tail _ (.head _))) rfl) ?_
    refine wv rfl (r_mkfn (caps := [.tmp 6, .tmp 3, .tmp 7]) (vs := [(.pointer (some ⟨b61, 0, none⟩)), (.pointer (some ⟨b44, 0, none⟩)), (.pointer (some ⟨b65, 0, none⟩))]) rfl) ?_
    have hM := hM.nil0 (T := DPart) 3 fDPart
    replace hM := hM.p1.p3.p2.p3
    obtain ⟨r74, h75, hx⟩ := bind_some' hx
    refine w_call rfl rfl (hM.callR (l := [oBox b61 #[nS.v] 29, oC (cSl 3 fDPart ([] : List DPart)) nS.v, oBox b44 #[s_b.v] 26, oBox b65 #[(.int .i64 0)] 3]) fun X S oL hS hR => ct_impl_align _ X S a s_a b s_b b61 [] nS b44 b s_b b65 0 hS (hR _ (.tail _ (.head _))) (hR _ (.head _)) (hR _ (.head _)) oL h75) ?_
    rintro _ w76 ⟨⟨s77, s78⟩, rfl, hM⟩
    replace hM : St ⟨w, X, S⟩ [oBox b61 #[s77.v] 29, oC (cSl 3 fDPart r74.1) s77.v, oBox b44 #[s78.v] 26, oBox b65 #[(.int .i64 r74.2.2)] 3] [rV s78.v (cSl 1 fI r74.2.1), rV s_b.v (cSl 1 fI b), rV s_a.v (cSl 1 fI a)] _ := hM
    refine wl_nil ?_
    refine sq_n ?_
    refine wc_seq ?_
    refine wc_region ?_
    refine wv rfl (r_ldB Try.underlying29 rfl rfl hM (.head _) rfl) ?_
    obtain ⟨r80, h81, hx⟩ := bind_some' hx
    refine w_call rfl rfl (hM.callO (l := []) fun X S oL hS hR hO => ct_impl_OpNorm _ X S r74.1 s77 hS (seeA hO (.tail _ (.head _))) oL h81) ?_
    rintro _ w82 ⟨s83, rfl, hM⟩
    replace hM : St ⟨w, X, S⟩ [oC (cSl 3 fDPart r80) s83.v, oBox b61 #[s77.v] 29, oC (cSl 3 fDPart r74.1) s77.v, oBox b44 #[s78.v] 26, oBox b65 #[(.int .i64 r74.2.2)] 3] [rV s78.v (cSl 1 fI r74.2.1), rV s_b.v (cSl 1 fI b), rV s_a.v (cSl 1 fI a)] _ := hM
    refine wv rfl (r_assign rfl) ?_
    refine wv rfl (r_assign rfl) ?_
    refine wl_nil ?_
    refine sq_n ?_
    refine wc_ret ?_
    obtain rfl := Option.some.inj hx
    refine fin_ret [s83.v, (.bool true)] ⟨rfl, rfl, trivial⟩ ?_
    replace hM := hM.t1
    have hM := hM.fewer rsN
    exact ⟨s83, rfl, hM.gives⟩

end Go.Proofs.Ythfkcpdechjmnaa
