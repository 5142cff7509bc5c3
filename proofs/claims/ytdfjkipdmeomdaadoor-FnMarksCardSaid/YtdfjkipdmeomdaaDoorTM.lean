/- Walks of functions of this program (printed by a program of ours, by the rules of the layer). No condition. -/
import Derived.Test.YtdfjkipdmeomdaaDoorTX
import Derived.Test.YtdfjkipdmeomdaaDoorNs
import Derived.Test.YtdfjkipdmeomdaaDoorIn
namespace Go.Proofs.YtdfjkipdmeomdaaDoor
open Go.RowKit

noncomputable def x_impl_MarksOk_b0 (l : List DMark) (n : Int) (k21 : Nat) (x256 : DMark) : Option (Lr Unit (Sum Unit Unit)) :=
  Option.bind (x_impl_within (x256.id) 1 1000000000) fun r153 => Option.bind (bif !r153 then (some true) else (Option.bind (bif decide ((0 : Int) < (k21 : Int)) then (xg (inI ((k21 : Int) - 1)) <| xg (0 ≤ ((k21 : Int) - 1) ∧ ((k21 : Int) - 1) < (l.length : Int)) <| some (decide ((x256.id) ≤ ((el l (((k21 : Int) - 1).toNat)).id)))) else (some false)) fun c192 => some c192)) fun c158 => Option.bind (bif c158 then (some true) else (some (decide ((x256.from_) < 0)))) fun c219 => Option.bind (bif c219 then (some true) else (some (decide ((x256.to) < (x256.from_))))) fun c228 => Option.bind (bif c228 then (some true) else (some (decide (n < (x256.to))))) fun c241 => bif c241 then (some (Lr.out (Sum.inr (())))) else (some (Lr.go ()))
noncomputable def x_impl_MarksOk_f0 (l : List DMark) (n : Int) (k21 : Nat) (_s257 : Unit) : Option (Lr Unit (Sum Unit Unit)) := x_impl_MarksOk_b0 l n k21 (el l k21)
noncomputable def x_impl_MarksOk (l : List DMark) (n : Int) : Option Bool :=
  Option.bind (x_impl_within n 0 200) fun r3 => Option.bind (bif !r3 then (some true) else (some (decide ((12 : Int) < (l.length : Int))))) fun c9 => bif c9 then (some false) else (Option.bind (eachN (x_impl_MarksOk_f0 l n) (fun (_s257 : Unit) => (Sum.inl () : Sum Unit Unit)) l.length 0 ()) fun (y258 : Sum Unit Unit) => Sum.elim (fun _y259 => some true) (fun _y260 => some false) y258)
theorem ct_impl_MarksOk (w : World) (X S : Bs) (l : List DMark) (s_l : Sv) (n : Int) (hS : ∀ b, S b → b < w.heap.size ∧ ¬ X b) (a_l_0 : (cSl 3 fDMark l).rd S w s_l.v) (oL : Sep [] X w) {r : Bool} (hx : x_impl_MarksOk l n = some r) :
  Ret Tryd.prog 12 [s_l.v, (.int .i64 n)] w (fun u w' => ∃ _ : Unit, u = (.bool r) ∧ Gives X S w [] [] w') := by
 unfold x_impl_MarksOk at hx
 refine enter Tryd.func12 rfl Tryd.ntmps12 (by kernel_rfl) rfl ?_
 have hM := St.enter oL hS
 have hM := hM.addE (r := rV s_l.v (cSl 3 fDMark l)) a_l_0
 refine wc_sr ?_
 refine was rfl rfl ?_
 refine wl_sq ?_
 refine wc_seq ?_
 refine wc_sr ?_
 refine wmv rfl rfl ?_
 obtain ⟨r264, h265, hx⟩ := bind_some' hx
 refine w_call rfl rfl (hM.callV fun X S oL hS hR hO => ct_impl_within _ X S n (0 : Int) (200 : Int) hS  oL h265) ?_
 rintro _ w266 ⟨rfl, hR267⟩
 have hM := hM.call hR267
 refine wv rfl (r_not rfl) ?_
 refine wmv rfl rfl ?_
 obtain ⟨c270, hx, hx275⟩ := bind_some' hx
 refine wl_mid 4 (fun _ : Unit => [(14, (.bool c270)), (0, s_l.v), (1, (.int .i64 n))]) (fun _ w' => St ⟨w, X, S⟩ [] [rV s_l.v (cSl 3 fDMark l)] w') ?_ ?_
 ·
  rcases Bool.eq_false_or_eq_true (!r264) with hg271 | hg271
  ·
   replace hx := xif_t hg271 hx
   refine gs rfl (isB_no hg271) rfl ?_
   refine gs rfl (isB_no hg271) rfl ?_
   refine gs rfl (isB_no hg271) rfl ?_
   refine wv rfl (p_t rfl hg271 rfl) ?_
   obtain rfl := Option.some.inj hx
   exact mid_nil () ⟨rfl, rfl, rfl, trivial⟩ hM
  ·
   replace hx := xif_f hg271 hx
   refine gv rfl hg271 rfl (r_move rfl) ?_
   refine gv rfl hg271 rfl (r_lenC Tryd.underlying33 rfl (hM.seeR (.head _))) ?_
   refine gv rfl hg271 rfl (r_gtr rfl rfl) ?_
   refine wv rfl (p_f rfl hg271 rfl) ?_
   obtain rfl := Option.some.inj hx
   exact mid_nil () ⟨rfl, rfl, rfl, trivial⟩ hM
 rintro _ w279 hM
 replace hx := hx275
 refine wl_sq ?_
 refine wc_cond rfl (fun hc280 => ?_) (fun hc280 => ?_)
 ·
  replace hx := xif_t hc280 hx
  refine wc_sr ?_
  refine was rfl rfl ?_
  refine wl_sq ?_
  refine wc_ret ?_
  refine sq_ret ?_
  obtain rfl := Option.some.inj hx
  refine fin_ret [(.bool false)] ⟨rfl, trivial⟩ ?_
  replace hM := hM.t0
  have hM := hM.fewer rsN
  exact ⟨(), rfl, hM.gives⟩
 ·
  replace hx := xif_f hc280 hx
  refine wc_skip ?_
  refine sq_n ?_
  refine wc_seq ?_
  refine wc_sr ?_
  refine wmv rfl rfl ?_
  refine wv rfl (r_lenC Tryd.underlying33 rfl (hM.seeR (.head _))) ?_
  refine wmv rfl rfl ?_
  refine wl_sq ?_
  refine wc_block ?_
  obtain ⟨y285, hx, hx286⟩ := bind_some' hx
  have hl290 := Cs.le (hM.seeR (.head _))
  refine wc_loop (un fun (m287 : Nat) => fun (k288 : Nat) => [(0, s_l.v), (1, (.int .i64 n)), (15, s_l.v), (16, (.int .i64 (l.length : Int))), (17, (.int .i64 (k288 : Int)))]) (un fun (m287 : Nat) => fun (k288 : Nat) w' => St ⟨w, X, S⟩ [] [rV s_l.v (cSl 3 fDMark l)] w' ∧ eachN _ _ m287 k288 () = some y285 ∧ k288 + m287 = l.length) (fun p => p.1) (l.length, 0) ⟨rfl, rfl, rfl, rfl, rfl, trivial⟩ ⟨hM, hx, Nat.zero_add _⟩ ?_
  rintro ⟨m287, k288⟩ w291 ⟨hM, hx, hk289⟩
  refine wc_sr ?_
  refine wv rfl (r_lss rfl rfl) ?_
  refine wl_sq ?_
  refine wc_seq ?_
  refine wc_cond rfl (fun hc293 => ?_) (fun hc293 => ?_)
  ·
   replace hc293 := of_decide_eq_true hc293
   obtain ⟨m294, z295, rfl, hk289, hx, hx296⟩ := eachN_step hx hk289 hc293
   unfold x_impl_MarksOk_f0 x_impl_MarksOk_b0 at hx
   try dsimp only at hx
   refine wc_skip ?_
   refine sq_n ?_
   refine wc_seq ?_
   refine wc_block ?_
   refine wc_sr ?_
   refine wmv rfl rfl ?_
   have hi299 : k288 < l.length := by omega
   refine wv rfl (r_ixC Tryd.underlying33 sz25 rfl rfl (hM.seeR (.head _)) ⟨by omega, hc293⟩) ?_
   refine wv rfl (r_ldC (o := k288 * 3) Tryd.underlying25 sz25 rfl (us := [(.int .i64 ((el l k288).id)), (.int .i64 ((el l k288).from_)), (.int .i64 ((el l k288).to))]) rfl (hM.seeR (.head _)) hi299 ⟨(Cs.get (i := k288) (j := 0) (hM.seeR (.head _)) (fun _ => rfl) hi299 rfl), (Cs.get (i := k288) (j := 1) (hM.seeR (.head _)) (fun _ => rfl) hi299 rfl), (Cs.get (i := k288) (j := 2) (hM.seeR (.head _)) (fun _ => rfl) hi299 rfl), trivial⟩) ?_
   refine w_ex rfl (x_alloc sz25 hM ?_); intro b302 w301 hR303 hM
   dsimp only [Value.cells] at hM
   refine was rfl rfl ?_
   refine w_exu (x_stB #[(.int .i64 ((el l k288).id)), (.int .i64 ((el l k288).from_)), (.int .i64 ((el l k288).to))] sz25 rfl rfl rfl rfl rfl rfl hM ?_); intro w306 hM
   refine wl_sq ?_
   refine wc_seq ?_
   refine wc_draw [(0, 0), (1, 0), (2, 0), (3, 0), (4, 0), (5, 0), (6, 0), (7, 0), (8, 0), (9, 0), (10, 0), (11, 0), (12, 0), (13, 0), (14, 0), (15, 0), (16, 0), (17, 0), (18, 0), (19, 0), (20, 0), (21, 0), (22, 0), (23, 0), (24, 0), (25, 0), (26, 0), (27, 0), (28, 0), (29, 0), (30, 0), (31, 0), (32, 0), (33, 0), (34, 0), (35, 0), (36, 0)] Tryd_mixed (by kernel_rfl) rfl (by kernel_rfl) rfl ?_
   refine ov rfl (fun w' h' => r_fld Tryd.underlying25 rfl rfl sz3 rfl) ?_
   refine ov rfl (fun w' h' => r_ldB Tryd.underlying3 rfl rfl (hM.call h') (.head _) rfl) ?_
   obtain ⟨r310, h311, hx⟩ := bind_some' hx
   refine oc rfl rfl (fun w' h' => (hM.call h').callV fun X S oL hS hR hO => ct_impl_within _ X S ((el l k288).id) (1 : Int) (1000000000 : Int) hS  oL h311) ?_
   refine ov rfl (fun w' h' => r_not rfl) ?_
   refine omv rfl rfl ?_
   obtain ⟨c315, hx, hx346⟩ := bind_some' hx
   refine wo_mid 14 [(40, (.bool c315)), (0, s_l.v), (1, (.int .i64 n)), (6, (.pointer (some ⟨b302, 0, none⟩))), (15, s_l.v), (16, (.int .i64 (l.length : Int))), (17, (.int .i64 (k288 : Int)))] rfl ?_ ?_
   ·
    rcases Bool.eq_false_or_eq_true (!r310) with hg316 | hg316
    ·
     replace hx := xif_t hg316 hx
     refine ogs rfl (isB_no hg316) rfl ?_
     refine ogs rfl (isB_no hg316) rfl ?_
     refine ogs rfl (isB_no hg316) rfl ?_
     refine ogs rfl rfl rfl ?_
     refine ogs rfl rfl rfl ?_
     refine ogs rfl rfl rfl ?_
     refine ogs rfl rfl rfl ?_
     refine ogs rfl rfl rfl ?_
     refine ogs rfl rfl rfl ?_
     refine ogs rfl rfl rfl ?_
     refine ogs rfl rfl rfl ?_
     refine ogs rfl rfl rfl ?_
     refine ogs rfl (isB_no hg316) rfl ?_
     refine ov rfl (fun w' h' => p_t rfl hg316 rfl) ?_
     obtain rfl := Option.some.inj hx
     exact mid_onil ⟨rfl, rfl, rfl, rfl, rfl, rfl, rfl, trivial⟩
    ·
     replace hx := xif_f hg316 hx
     refine ogv rfl hg316 rfl (fun w' h' => r_move rfl) ?_
     refine ogv rfl hg316 rfl (fun w' h' => r_gtr rfl rfl) ?_
     refine ogv rfl hg316 rfl (fun w' h' => r_move rfl) ?_
     obtain ⟨c350, hx, hx364⟩ := bind_some' hx
     refine wo_mid 10 [(39, (.bool c350)), (0, s_l.v), (1, (.int .i64 n)), (6, (.pointer (some ⟨b302, 0, none⟩))), (15, s_l.v), (16, (.int .i64 (l.length : Int))), (17, (.int .i64 (k288 : Int))), (26, (.bool (!r310))), (27, (.int .i64 (k288 : Int))), (28, (.bool (decide ((0 : Int) < (k288 : Int))))), (29, (.bool (decide ((0 : Int) < (k288 : Int)))))] rfl ?_ ?_
     ·
      rcases Bool.eq_false_or_eq_true (decide ((0 : Int) < (k288 : Int))) with hg351 | hg351
      ·
       replace hx := xif_t hg351 hx
       refine ogv rfl hg351 rfl (fun w' h' => r_move rfl) ?_
       refine ogv rfl hg351 rfl (fun w' h' => r_move rfl) ?_
       obtain ⟨hg368, hx⟩ := xg_some hx
       refine ogv rfl hg351 rfl (fun w' h' => r_sub rfl rfl hg368) ?_
       obtain ⟨hg371, hx⟩ := xg_some hx
       have hi370 : (((k288 : Int) - 1).toNat) < l.length := by omega
       refine ogv rfl hg351 rfl (fun w' h' => r_ixC Tryd.underlying33 sz25 rfl rfl ((hM.call h').seeR (.head _)) hg371) ?_
       refine ogv rfl hg351 rfl (fun w' h' => r_fldC (i := (((k288 : Int) - 1).toNat)) Tryd.underlying25 rfl rfl sz3 rfl ((hM.call h').seeR (.head _)) hi370) ?_
       refine ogv rfl hg351 rfl (fun w' h' => r_ld Tryd.underlying3 rfl rfl (Cs.get (i := (((k288 : Int) - 1).toNat)) (j := 0) ((hM.call h').seeR (.head _)) (fun _ => rfl) hi370 rfl)) ?_
       refine ogv rfl hg351 rfl (fun w' h' => r_fld Tryd.underlying25 rfl rfl sz3 rfl) ?_
       refine ogv rfl hg351 rfl (fun w' h' => r_ldB Tryd.underlying3 rfl rfl (hM.call h') (.head _) rfl) ?_
       refine ogv rfl hg351 rfl (fun w' h' => r_geq rfl rfl) ?_
       refine ogv rfl hg316 rfl (fun w' h' => p_t rfl hg351 rfl) ?_
       obtain rfl := Option.some.inj hx
       exact mid_onil ⟨rfl, rfl, rfl, rfl, rfl, rfl, rfl, rfl, rfl, rfl, rfl, trivial⟩
      ·
       replace hx := xif_f hg351 hx
       refine ogs rfl (isB_no hg351) rfl ?_
       refine ogs rfl (isB_no hg351) rfl ?_
       refine ogs rfl (isB_no hg351) rfl ?_
       refine ogs rfl (isB_no hg351) rfl ?_
       refine ogs rfl (isB_no hg351) rfl ?_
       refine ogs rfl (isB_no hg351) rfl ?_
       refine ogs rfl (isB_no hg351) rfl ?_
       refine ogs rfl (isB_no hg351) rfl ?_
       refine ogs rfl (isB_no hg351) rfl ?_
       refine ogv rfl hg316 rfl (fun w' h' => p_f rfl hg351 rfl) ?_
       obtain rfl := Option.some.inj hx
       exact mid_onil ⟨rfl, rfl, rfl, rfl, rfl, rfl, rfl, rfl, rfl, rfl, rfl, trivial⟩
     replace hx := hx364
     refine ov rfl (fun w' h' => p_f rfl hg316 rfl) ?_
     obtain rfl := Option.some.inj hx
     exact mid_onil ⟨rfl, rfl, rfl, rfl, rfl, rfl, rfl, trivial⟩
   replace hx := hx346
   refine omv rfl rfl ?_
   obtain ⟨c378, hx, hx383⟩ := bind_some' hx
   refine wo_mid 4 [(45, (.bool c378)), (0, s_l.v), (1, (.int .i64 n)), (6, (.pointer (some ⟨b302, 0, none⟩))), (15, s_l.v), (16, (.int .i64 (l.length : Int))), (17, (.int .i64 (k288 : Int)))] rfl ?_ ?_
   ·
    rcases Bool.eq_false_or_eq_true c315 with hg379 | hg379
    ·
     replace hx := xif_t hg379 hx
     refine ogs rfl (isB_no hg379) rfl ?_
     refine ogs rfl (isB_no hg379) rfl ?_
     refine ogs rfl (isB_no hg379) rfl ?_
     refine ov rfl (fun w' h' => p_t rfl hg379 rfl) ?_
     obtain rfl := Option.some.inj hx
     exact mid_onil ⟨rfl, rfl, rfl, rfl, rfl, rfl, rfl, trivial⟩
    ·
     replace hx := xif_f hg379 hx
     refine ogv rfl hg379 rfl (fun w' h' => r_fld Tryd.underlying25 rfl rfl sz3 rfl) ?_
     refine ogv rfl hg379 rfl (fun w' h' => r_ldB Tryd.underlying3 rfl rfl (hM.call h') (.head _) rfl) ?_
     refine ogv rfl hg379 rfl (fun w' h' => r_lss rfl rfl) ?_
     refine ov rfl (fun w' h' => p_f rfl hg379 rfl) ?_
     obtain rfl := Option.some.inj hx
     exact mid_onil ⟨rfl, rfl, rfl, rfl, rfl, rfl, rfl, trivial⟩
   replace hx := hx383
   refine omv rfl rfl ?_
   obtain ⟨c388, hx, hx395⟩ := bind_some' hx
   refine wo_mid 6 [(52, (.bool c388)), (0, s_l.v), (1, (.int .i64 n)), (6, (.pointer (some ⟨b302, 0, none⟩))), (15, s_l.v), (16, (.int .i64 (l.length : Int))), (17, (.int .i64 (k288 : Int)))] rfl ?_ ?_
   ·
    rcases Bool.eq_false_or_eq_true c378 with hg389 | hg389
    ·
     replace hx := xif_t hg389 hx
     refine ogs rfl (isB_no hg389) rfl ?_
     refine ogs rfl (isB_no hg389) rfl ?_
     refine ogs rfl (isB_no hg389) rfl ?_
     refine ogs rfl (isB_no hg389) rfl ?_
     refine ogs rfl (isB_no hg389) rfl ?_
     refine ov rfl (fun w' h' => p_t rfl hg389 rfl) ?_
     obtain rfl := Option.some.inj hx
     exact mid_onil ⟨rfl, rfl, rfl, rfl, rfl, rfl, rfl, trivial⟩
    ·
     replace hx := xif_f hg389 hx
     refine ogv rfl hg389 rfl (fun w' h' => r_fld Tryd.underlying25 rfl rfl sz3 rfl) ?_
     refine ogv rfl hg389 rfl (fun w' h' => r_ldB Tryd.underlying3 rfl rfl (hM.call h') (.head _) rfl) ?_
     refine ogv rfl hg389 rfl (fun w' h' => r_fld Tryd.underlying25 rfl rfl sz3 rfl) ?_
     refine ogv rfl hg389 rfl (fun w' h' => r_ldB Tryd.underlying3 rfl rfl (hM.call h') (.head _) rfl) ?_
     refine ogv rfl hg389 rfl (fun w' h' => r_gtr rfl rfl) ?_
     refine ov rfl (fun w' h' => p_f rfl hg389 rfl) ?_
     obtain rfl := Option.some.inj hx
     exact mid_onil ⟨rfl, rfl, rfl, rfl, rfl, rfl, rfl, trivial⟩
   replace hx := hx395
   refine omv rfl rfl ?_
   obtain ⟨c402, hx, hx408⟩ := bind_some' hx
   refine wo_mid 5 [(58, (.bool c402)), (0, s_l.v), (1, (.int .i64 n)), (15, s_l.v), (16, (.int .i64 (l.length : Int))), (17, (.int .i64 (k288 : Int)))] rfl ?_ ?_
   ·
    rcases Bool.eq_false_or_eq_true c388 with hg403 | hg403
    ·
     replace hx := xif_t hg403 hx
     refine ogs rfl (isB_no hg403) rfl ?_
     refine ogs rfl (isB_no hg403) rfl ?_
     refine ogs rfl (isB_no hg403) rfl ?_
     refine ogs rfl (isB_no hg403) rfl ?_
     refine ov rfl (fun w' h' => p_t rfl hg403 rfl) ?_
     obtain rfl := Option.some.inj hx
     exact mid_onil ⟨rfl, rfl, rfl, rfl, rfl, rfl, trivial⟩
    ·
     replace hx := xif_f hg403 hx
     refine ogv rfl hg403 rfl (fun w' h' => r_fld Tryd.underlying25 rfl rfl sz3 rfl) ?_
     refine ogv rfl hg403 rfl (fun w' h' => r_ldB Tryd.underlying3 rfl rfl (hM.call h') (.head _) rfl) ?_
     refine ogv rfl hg403 rfl (fun w' h' => r_move rfl) ?_
     refine ogv rfl hg403 rfl (fun w' h' => r_gtr rfl rfl) ?_
     refine ov rfl (fun w' h' => p_f rfl hg403 rfl) ?_
     obtain rfl := Option.some.inj hx
     exact mid_onil ⟨rfl, rfl, rfl, rfl, rfl, rfl, trivial⟩
   replace hx := hx408
   refine o_nilM hM fun w413 hM => ?_
   refine sq_n ?_
   refine wc_cond rfl (fun hc415 => ?_) (fun hc415 => ?_)
   ·
    replace hx := xif_t hc415 hx
    refine wc_sr ?_
    refine was rfl rfl ?_
    refine wl_sq ?_
    refine wc_ret ?_
    refine bk_ret ?_
    refine sq_ret ?_
    refine lp1_ret ?_
    obtain rfl := Option.some.inj hx
    obtain rfl := Option.some.inj hx296
    replace hx := hx286
    try dsimp only [Sum.elim_inl, Sum.elim_inr] at hx
    refine bk_ret ?_
    refine sq_ret ?_
    obtain rfl := Option.some.inj hx
    refine fin_ret [(.bool false)] ⟨rfl, trivial⟩ ?_
    replace hM := hM.t0
    have hM := hM.fewer rsN
    exact ⟨(), rfl, hM.gives⟩
   ·
    replace hx := xif_f hc415 hx
    refine wc_skip ?_
    refine bk_n ?_
    refine sq_n ?_
    refine wc_region ?_
    refine wv rfl (r_add rfl rfl ⟨by omega, by omega⟩) ?_
    refine wmv rfl rfl ?_
    refine wl_nil ?_
    obtain rfl := Option.some.inj hx
    replace hM := hM.t0
    exact lp_end (m294, k288 + 1) (Nat.lt_succ_self _) ⟨rfl, rfl, rfl, rfl, rfl, trivial⟩ ⟨hM, hx296, hk289⟩
  ·
   replace hc293 := of_decide_eq_false hc293
   obtain rfl := eachN_end hx hk289 hc293
   refine wc_exit ?_
   refine sq_exit ?_
   refine lp1_exit ?_
   replace hx := hx286
   try dsimp only [Sum.elim_inl, Sum.elim_inr] at hx
   refine bk_here ?_
   refine sq_n ?_
   refine wc_sr ?_
   refine was rfl rfl ?_
   refine wl_sq ?_
   refine wc_ret ?_
   obtain rfl := Option.some.inj hx
   refine fin_ret [(.bool true)] ⟨rfl, trivial⟩ ?_
   replace hM := hM.t0
   have hM := hM.fewer rsN
   exact ⟨(), rfl, hM.gives⟩

noncomputable def x_impl_MarkDrop_b0 (id_ : Int) (_l : List DMark) (_k33 : Nat) (x87 : DMark) (out34 : List DMark) : Option (Lr (List DMark) (List DMark)) :=
  bif !decide ((x87.id) = id_) then (xg (out34.length < 1099511627776) <| some (Lr.go (out34 ++ [x87]))) else (some (Lr.go out34))
noncomputable def x_impl_MarkDrop_f0 (id_ : Int) (l : List DMark) (k33 : Nat) (s88 : List DMark) : Option (Lr (List DMark) (List DMark)) := x_impl_MarkDrop_b0 id_ l k33 (el l k33) s88
noncomputable def x_impl_MarkDrop (l : List DMark) (id_ : Int) : Option (List DMark) :=
  Option.bind (eachN (x_impl_MarkDrop_f0 id_ l) (fun (s88 : List DMark) => (s88 : List DMark)) l.length 0 []) fun (y89 : List DMark) => some y89
theorem ct_impl_MarkDrop (w : World) (X S : Bs) (l : List DMark) (s_l : Sv) (id_ : Int) (hS : ∀ b, S b → b < w.heap.size ∧ ¬ X b) (a_l_0 : (cSl 3 fDMark l).rd S w s_l.v) (oL : Sep [] X w) {r : List DMark} (hx : x_impl_MarkDrop l id_ = some r) :
  Ret Tryd.prog 16 [s_l.v, (.int .i64 id_)] w (fun u w' => ∃ y : Sv, u = y.v ∧ Gives X S w [oC (cSl 3 fDMark r) y.v] [] w') := by
 unfold x_impl_MarkDrop at hx
 refine enter Tryd.func16 rfl Tryd.ntmps16 (by kernel_rfl) rfl ?_
 have hM := St.enter oL hS
 have hM := hM.addE (r := rV s_l.v (cSl 3 fDMark l)) a_l_0
 refine wc_sr ?_
 refine was rfl rfl ?_
 refine wl_sq ?_
 refine wc_sr ?_
 refine was rfl rfl ?_
 refine wl_sq ?_
 refine wc_seq ?_
 refine wc_sr ?_
 refine wmv rfl rfl ?_
 refine wv rfl (r_lenC Tryd.underlying33 rfl (hM.seeR (.head _))) ?_
 refine wmv rfl rfl ?_
 refine wl_sq ?_
 refine wc_block ?_
 obtain ⟨y99, hx, hx100⟩ := bind_some' hx
 have hM := hM.nil0 (T := DMark) 3 fDMark
 have hl108 := Cs.le (hM.seeR (.head _))
 refine wc_loop (un fun (m105 : Nat) => un fun (k106 : Nat) => un fun (out102 : List DMark) => fun (s104 : Sv) => [(1, (.int .i64 id_)), (5, s104.v), (8, s_l.v), (9, (.int .i64 (l.length : Int))), (10, (.int .i64 (k106 : Int)))]) (un fun (m105 : Nat) => un fun (k106 : Nat) => un fun (out102 : List DMark) => fun (s104 : Sv) w' => St ⟨w, X, S⟩ [oC (cSl 3 fDMark out102) s104.v] [rV s_l.v (cSl 3 fDMark l)] w' ∧ eachN _ _ m105 k106 out102 = some y99 ∧ k106 + m105 = l.length) (fun p => p.1) (l.length, 0, [], nS) ⟨rfl, rfl, rfl, rfl, rfl, trivial⟩ ⟨hM, hx, Nat.zero_add _⟩ ?_
 rintro ⟨m105, k106, out102, s104⟩ w109 ⟨hM, hx, hk107⟩
 refine wc_sr ?_
 refine wv rfl (r_lss rfl rfl) ?_
 refine wl_sq ?_
 refine wc_seq ?_
 refine wc_cond rfl (fun hc111 => ?_) (fun hc111 => ?_)
 ·
  replace hc111 := of_decide_eq_true hc111
  obtain ⟨m112, z113, rfl, hk107, hx, hx114⟩ := eachN_step hx hk107 hc111
  unfold x_impl_MarkDrop_f0 x_impl_MarkDrop_b0 at hx
  try dsimp only at hx
  refine wc_skip ?_
  refine sq_n ?_
  refine wc_seq ?_
  refine wc_block ?_
  refine wc_sr ?_
  have hi116 : k106 < l.length := by omega
  refine wv rfl (r_ixC Tryd.underlying33 sz25 rfl rfl (hM.seeR (.head _)) ⟨by omega, hc111⟩) ?_
  refine wv rfl (r_ldC (o := k106 * 3) Tryd.underlying25 sz25 rfl (us := [(.int .i64 ((el l k106).id)), (.int .i64 ((el l k106).from_)), (.int .i64 ((el l k106).to))]) rfl (hM.seeR (.head _)) hi116 ⟨(Cs.get (i := k106) (j := 0) (hM.seeR (.head _)) (fun _ => rfl) hi116 rfl), (Cs.get (i := k106) (j := 1) (hM.seeR (.head _)) (fun _ => rfl) hi116 rfl), (Cs.get (i := k106) (j := 2) (hM.seeR (.head _)) (fun _ => rfl) hi116 rfl), trivial⟩) ?_
  refine w_ex rfl (x_alloc sz25 hM ?_); intro b119 w118 hR120 hM
  dsimp only [Value.cells] at hM
  refine w_exu (x_stB #[(.int .i64 ((el l k106).id)), (.int .i64 ((el l k106).from_)), (.int .i64 ((el l k106).to))] sz25 rfl rfl rfl rfl rfl rfl hM ?_); intro w122 hM
  refine wl_sq ?_
  refine wc_sr ?_
  refine wv rfl (r_fld Tryd.underlying25 rfl rfl sz3 rfl) ?_
  refine wv rfl (r_ldB Tryd.underlying3 rfl rfl hM (.head _) rfl) ?_
  refine wmv rfl rfl ?_
  refine wv rfl (r_neq rfl rfl) ?_
  refine wl_sq ?_
  refine wc_cond rfl (fun hc128 => ?_) (fun hc128 => ?_)
  ·
   replace hx := xif_t hc128 hx
   refine wc_region ?_
   refine wmv rfl rfl ?_
   refine wv rfl (r_ldBS Tryd.underlying25 sz25 rfl (us := [(.int .i64 ((el l k106).id)), (.int .i64 ((el l k106).from_)), (.int .i64 ((el l k106).to))]) rfl hM (.head _) rfl) ?_
   replace hM := hM.p1
   obtain ⟨hg134, hx⟩ := xg_some hx
   refine w_push (f := fDMark) (el l k106) rfl rfl Tryd.underlying33 sz25 rfl rfl rfl rfl (fun _ => rfl) hM (fun _ => zP (pV _ rfl) (zP (pV _ rfl) (zP (pV _ rfl) zN))) rfl hg134 rfl ?_; intro u132 s133 w131 hM
   refine was rfl rfl ?_
   refine wl_nil ?_
   refine bk_n ?_
   refine sq_n ?_
   refine wc_region ?_
   refine wv rfl (r_add rfl rfl ⟨by omega, by omega⟩) ?_
   refine wmv rfl rfl ?_
   refine wl_nil ?_
   obtain rfl := Option.some.inj hx
   replace hM := hM.t1
   exact lp_end (m112, k106 + 1, out102 ++ [el l k106], s133) (Nat.lt_succ_self _) ⟨rfl, rfl, rfl, rfl, rfl, trivial⟩ ⟨hM, hx114, hk107⟩
  ·
   replace hx := xif_f hc128 hx
   refine wc_skip ?_
   refine bk_n ?_
   refine sq_n ?_
   refine wc_region ?_
   refine wv rfl (r_add rfl rfl ⟨by omega, by omega⟩) ?_
   refine wmv rfl rfl ?_
   refine wl_nil ?_
   obtain rfl := Option.some.inj hx
   replace hM := hM.p1
   replace hM := hM.t1
   exact lp_end (m112, k106 + 1, out102, s104) (Nat.lt_succ_self _) ⟨rfl, rfl, rfl, rfl, rfl, trivial⟩ ⟨hM, hx114, hk107⟩
 ·
  replace hc111 := of_decide_eq_false hc111
  obtain rfl := eachN_end hx hk107 hc111
  refine wc_exit ?_
  refine sq_exit ?_
  refine lp1_exit ?_
  replace hx := hx100
  try dsimp only [Sum.elim_inl, Sum.elim_inr] at hx
  refine bk_here ?_
  refine sq_n ?_
  refine wc_sr ?_
  refine wmv rfl rfl ?_
  refine was rfl rfl ?_
  refine wl_sq ?_
  refine wc_ret ?_
  obtain rfl := Option.some.inj hx
  refine fin_ret [s104.v] ⟨rfl, trivial⟩ ?_
  replace hM := hM.t1
  have hM := hM.fewer rsN
  exact ⟨s104, rfl, hM.gives⟩

noncomputable def x_impl_MarkAdd_b0 (r14 : List DMark) (id_ : Int) (k21 : Int) : Option (Lr Int Int) :=
  Option.bind (bif decide (k21 < (r14.length : Int)) then (xg (0 ≤ k21 ∧ k21 < (r14.length : Int)) <| some (decide (((el r14 k21.toNat).id) < id_))) else (some false)) fun c56 => bif c56 then (xg (inI (k21 + 1)) <| some (Lr.go (k21 + 1))) else (some (Lr.out k21))
noncomputable def x_impl_MarkAdd_f0 (r14 : List DMark) (id_ : Int) (s80 : Int) : Option (Lr Int Int) := x_impl_MarkAdd_b0 r14 id_ s80
noncomputable def x_impl_MarkAdd (l : List DMark) (n : Int) (id_ : Int) (from_ : Int) (to : Int) : Option (List DMark × Bool) :=
  Option.bind (x_impl_MarksOk l n) fun r5 => bif !r5 then (some ([], false)) else (Option.bind (x_impl_MarkDrop l id_) fun r14 => Option.bind (iter (x_impl_MarkAdd_f0 r14 id_) 0) fun (y81 : Int) => Option.bind (x_insertMark r14 y81 [(⟨id_, from_, to⟩ : DMark)]) fun r92 => Option.bind (x_impl_MarksOk r92 n) fun r100 => bif !r100 then (some ([], false)) else (some (r92, true)))
theorem ct_impl_MarkAdd (w : World) (X S : Bs) (l : List DMark) (s_l : Sv) (n : Int) (id_ : Int) (from_ : Int) (to : Int) (hS : ∀ b, S b → b < w.heap.size ∧ ¬ X b) (a_l_0 : (cSl 3 fDMark l).rd S w s_l.v) (oL : Sep [] X w) {r : List DMark × Bool} (hx : x_impl_MarkAdd l n id_ from_ to = some r) :
  Ret Tryd.prog 14 [s_l.v, (.int .i64 n), (.int .i64 id_), (.int .i64 from_), (.int .i64 to)] w (fun u w' => ∃ y : Sv, u = .tuple #[y.v, (.bool r.2)] ∧ Gives X S w [oC (cSl 3 fDMark r.1) y.v] [] w') := by
 unfold x_impl_MarkAdd at hx
 refine enter Tryd.func14 rfl Tryd.ntmps14 (by kernel_rfl) rfl ?_
 have hM := St.enter oL hS
 have hM := hM.addE (r := rV s_l.v (cSl 3 fDMark l)) a_l_0
 refine wc_sr ?_
 refine was rfl rfl ?_
 refine was rfl rfl ?_
 refine wl_sq ?_
 refine wc_seq ?_
 refine wc_sr ?_
 refine wmv rfl rfl ?_
 refine wmv rfl rfl ?_
 obtain ⟨r114, h115, hx⟩ := bind_some' hx
 refine w_call rfl rfl (hM.callV fun X S oL hS hR hO => ct_impl_MarksOk _ X S l s_l n hS (hR _ (.head _)) oL h115) ?_
 rintro _ w116 ⟨rfl, hR117⟩
 have hM := hM.call hR117
 refine wv rfl (r_not rfl) ?_
 refine wl_sq ?_
 refine wc_cond rfl (fun hc119 => ?_) (fun hc119 => ?_)
 ·
  replace hx := xif_t hc119 hx
  refine wc_sr ?_
  refine was rfl rfl ?_
  refine was rfl rfl ?_
  refine wl_sq ?_
  refine wc_ret ?_
  refine sq_ret ?_
  obtain rfl := Option.some.inj hx
  have hM := hM.nil0 (T := DMark) 3 fDMark
  refine fin_ret [nS.v, (.bool false)] ⟨rfl, rfl, trivial⟩ ?_
  replace hM := hM.t1
  have hM := hM.fewer rsN
  exact ⟨nS, rfl, hM.gives⟩
 ·
  replace hx := xif_f hc119 hx
  refine wc_skip ?_
  refine sq_n ?_
  refine wc_sr ?_
  refine wmv rfl rfl ?_
  refine wmv rfl rfl ?_
  obtain ⟨r125, h126, hx⟩ := bind_some' hx
  refine w_call rfl rfl (hM.callO (l := []) fun X S oL hS hR hO => ct_impl_MarkDrop _ X S l s_l id_ hS (hR _ (.head _)) oL h126) ?_
  rintro _ w127 ⟨s128, rfl, hM⟩
  dsimp only [List.cons_append, List.nil_append] at hM
  refine was rfl rfl ?_
  refine wl_sq ?_
  refine wc_sr ?_
  refine was rfl rfl ?_
  refine wl_sq ?_
  refine wc_seq ?_
  refine wc_block ?_
  obtain ⟨y132, hx, hx133⟩ := bind_some' hx
  have hM := hM.fewer rsN
  replace hM : St ⟨w, X, S⟩ [oC (cSl 3 fDMark r125) s128.v] [] _ := hM
  obtain ⟨m137, hx⟩ := iter_run hx
  refine wc_loop (un fun (m135 : Nat) => fun (k134 : Int) => [(1, (.int .i64 n)), (2, (.int .i64 id_)), (3, (.int .i64 from_)), (4, (.int .i64 to)), (12, s128.v), (13, (.int .i64 k134))]) (un fun (m135 : Nat) => fun (k134 : Int) w' => St ⟨w, X, S⟩ [oC (cSl 3 fDMark r125) s128.v] [] w' ∧ iterN _ m135 k134 = some y132) (fun p => p.1) (m137, 0) ⟨rfl, rfl, rfl, rfl, rfl, rfl, trivial⟩ ⟨hM, hx⟩ ?_
  rintro ⟨m135, k134⟩ w138 ⟨hM, hx⟩
  obtain ⟨m139, z140, rfl, hx, hx141⟩ := iterN_step hx
  unfold x_impl_MarkAdd_f0 x_impl_MarkAdd_b0 at hx
  try dsimp only at hx
  refine wc_seq ?_
  refine wc_sr ?_
  refine wmv rfl rfl ?_
  refine wmv rfl rfl ?_
  refine wv rfl (r_lenC Tryd.underlying33 rfl (hM.seeO (.head _))) ?_
  refine wv rfl (r_lss rfl rfl) ?_
  refine wmv rfl rfl ?_
  obtain ⟨c147, hx, hx158⟩ := bind_some' hx
  refine wl_mid 8 (fun _ : Unit => [(33, (.bool c147)), (1, (.int .i64 n)), (2, (.int .i64 id_)), (3, (.int .i64 from_)), (4, (.int .i64 to)), (12, s128.v), (13, (.int .i64 k134))]) (fun _ w' => St ⟨w, X, S⟩ [oC (cSl 3 fDMark r125) s128.v] [] w') ?_ ?_
  ·
   rcases Bool.eq_false_or_eq_true (decide (k134 < (r125.length : Int))) with hg148 | hg148
   ·
    replace hx := xif_t hg148 hx
    refine gv rfl hg148 rfl (r_move rfl) ?_
    refine gv rfl hg148 rfl (r_move rfl) ?_
    obtain ⟨hg163, hx⟩ := xg_some hx
    have hi162 : k134.toNat < r125.length := by omega
    refine gv rfl hg148 rfl (r_ixC Tryd.underlying33 sz25 rfl rfl (hM.seeO (.head _)) hg163) ?_
    refine gv rfl hg148 rfl (r_fldC (i := k134.toNat) Tryd.underlying25 rfl rfl sz3 rfl (hM.seeO (.head _)) hi162) ?_
    refine gv rfl hg148 rfl (r_ld Tryd.underlying3 rfl rfl (Cs.get (i := k134.toNat) (j := 0) (hM.seeO (.head _)) (fun _ => rfl) hi162 rfl)) ?_
    refine gv rfl hg148 rfl (r_move rfl) ?_
    refine gv rfl hg148 rfl (r_lss rfl rfl) ?_
    refine wv rfl (p_t rfl hg148 rfl) ?_
    obtain rfl := Option.some.inj hx
    exact mid_nil () ⟨rfl, rfl, rfl, rfl, rfl, rfl, rfl, trivial⟩ hM
   ·
    replace hx := xif_f hg148 hx
    refine gs rfl (isB_no hg148) rfl ?_
    refine gs rfl (isB_no hg148) rfl ?_
    refine gs rfl (isB_no hg148) rfl ?_
    refine gs rfl (isB_no hg148) rfl ?_
    refine gs rfl (isB_no hg148) rfl ?_
    refine gs rfl (isB_no hg148) rfl ?_
    refine gs rfl (isB_no hg148) rfl ?_
    refine wv rfl (p_f rfl hg148 rfl) ?_
    obtain rfl := Option.some.inj hx
    exact mid_nil () ⟨rfl, rfl, rfl, rfl, rfl, rfl, rfl, trivial⟩ hM
  rintro _ w168 hM
  replace hx := hx158
  refine wl_sq ?_
  refine wc_cond rfl (fun hc169 => ?_) (fun hc169 => ?_)
  ·
   replace hx := xif_t hc169 hx
   refine wc_skip ?_
   refine sq_n ?_
   refine wc_block ?_
   refine wc_region ?_
   refine wmv rfl rfl ?_
   obtain ⟨hg172, hx⟩ := xg_some hx
   refine wv rfl (r_add rfl rfl hg172) ?_
   refine was rfl rfl ?_
   refine wl_nil ?_
   refine bk_n ?_
   obtain rfl := Option.some.inj hx
   exact lp_end (m139, k134 + 1) (Nat.lt_succ_self _) ⟨rfl, rfl, rfl, rfl, rfl, rfl, trivial⟩ ⟨hM, hx141⟩
  ·
   replace hx := xif_f hc169 hx
   refine wc_exit ?_
   refine sq_exit ?_
   refine lp1_exit ?_
   obtain rfl := Option.some.inj hx
   obtain rfl := Option.some.inj hx141
   replace hx := hx133
   try dsimp only [Sum.elim_inl, Sum.elim_inr] at hx
   refine bk_here ?_
   refine sq_n ?_
   refine wc_sr ?_
   refine wmv rfl rfl ?_
   refine wmv rfl rfl ?_
   refine wmv rfl rfl ?_
   refine wmv rfl rfl ?_
   refine wmv rfl rfl ?_
   refine wv rfl (r_build (cells := #[(.int .i64 id_), (.int .i64 from_), (.int .i64 to)]) rfl (by kernel_rfl)) ?_
   refine w_ex rfl (x_lit (f := fDMark) (own := []) [(⟨id_, from_, to⟩ : DMark)] [(.int .i64 id_), (.int .i64 from_), (.int .i64 to)] 1 Tryd.underlying33 sz25 (fun _ => rfl) rfl rfl rfl rfl rfl (by kernel_rfl) (fun _ => zP (pV _ rfl) (zP (pV _ rfl) (zP (pV _ rfl) zN))) hM ?_); intro s181 w180 hR182 hM
   replace hM := hM.p1
   obtain ⟨r184, h185, hx⟩ := bind_some' hx
   refine w_call rfl rfl (hM.callO (l := [oC (cSl 3 fDMark r125) s128.v, oC (cSl 3 fDMark [(⟨id_, from_, to⟩ : DMark)]) s181.v]) fun X S oL hS hR hO => ct_insertMark _ X S r125 s128 k134 [(⟨id_, from_, to⟩ : DMark)] s181 hS  oL h185) ?_
   rintro _ w186 ⟨s187, rfl, hM⟩
   dsimp only [List.cons_append, List.nil_append] at hM
   refine was rfl rfl ?_
   refine wl_sq ?_
   refine wc_seq ?_
   refine wc_sr ?_
   refine wmv rfl rfl ?_
   refine wmv rfl rfl ?_
   obtain ⟨r192, h193, hx⟩ := bind_some' hx
   refine w_call rfl rfl (hM.callV fun X S oL hS hR hO => ct_impl_MarksOk _ X S r184 s187 n hS (seeA hO (.head _)) oL h193) ?_
   rintro _ w194 ⟨rfl, hR195⟩
   have hM := hM.call hR195
   refine wv rfl (r_not rfl) ?_
   refine wl_sq ?_
   refine wc_cond rfl (fun hc197 => ?_) (fun hc197 => ?_)
   ·
    replace hx := xif_t hc197 hx
    refine wc_sr ?_
    refine was rfl rfl ?_
    refine was rfl rfl ?_
    refine wl_sq ?_
    refine wc_ret ?_
    refine sq_ret ?_
    obtain rfl := Option.some.inj hx
    have hM := hM.nil0 (T := DMark) 3 fDMark
    refine fin_ret [nS.v, (.bool false)] ⟨rfl, rfl, trivial⟩ ?_
    replace hM := hM.t1
    have hM := hM.fewer rsN
    exact ⟨nS, rfl, hM.gives⟩
   ·
    replace hx := xif_f hc197 hx
    refine wc_skip ?_
    refine sq_n ?_
    refine wc_sr ?_
    refine wmv rfl rfl ?_
    refine was rfl rfl ?_
    refine was rfl rfl ?_
    refine wl_sq ?_
    refine wc_ret ?_
    obtain rfl := Option.some.inj hx
    refine fin_ret [s187.v, (.bool true)] ⟨rfl, rfl, trivial⟩ ?_
    replace hM := hM.t1
    have hM := hM.fewer rsN
    exact ⟨s187, rfl, hM.gives⟩

noncomputable def x_spec_MarksOk_b0 (n : Int) (l : List DMark) (k5 : Nat) (x240 : DMark) : Option (Lr Unit (Sum Unit Unit)) :=
  Option.bind (x_spec_l01In (x240.id) 1 1000000000) fun r137 => Option.bind (bif !r137 then (some true) else (some (decide ((x240.from_) < 0)))) fun c142 => Option.bind (bif c142 then (some true) else (some (decide ((x240.to) < (x240.from_))))) fun c151 => Option.bind (bif c151 then (some true) else (some (decide (n < (x240.to))))) fun c164 => Option.bind (bif c164 then (some true) else (Option.bind (bif decide ((0 : Int) < (k5 : Int)) then (xg (inI ((k5 : Int) - 1)) <| xg (0 ≤ ((k5 : Int) - 1) ∧ ((k5 : Int) - 1) < (l.length : Int)) <| some (decide ((x240.id) ≤ ((el l (((k5 : Int) - 1).toNat)).id)))) else (some false)) fun c209 => some c209)) fun c175 => bif c175 then (some (Lr.out (Sum.inr (())))) else (some (Lr.go ()))
noncomputable def x_spec_MarksOk_f0 (n : Int) (l : List DMark) (k5 : Nat) (_s241 : Unit) : Option (Lr Unit (Sum Unit Unit)) := x_spec_MarksOk_b0 n l k5 (el l k5)
noncomputable def x_spec_MarksOk (l : List DMark) (n : Int) : Option Bool :=
  Option.bind (eachN (x_spec_MarksOk_f0 n l) (fun (_s241 : Unit) => (Sum.inl () : Sum Unit Unit)) l.length 0 ()) fun (y242 : Sum Unit Unit) => Sum.elim (fun _y243 => Option.bind (x_spec_l01In n 0 200) fun r246 => Option.bind (bif r246 then (some (decide ((l.length : Int) ≤ 12))) else (some false)) fun c251 => some c251) (fun _y244 => some false) y242
theorem ct_spec_MarksOk (w : World) (X S : Bs) (l : List DMark) (s_l : Sv) (n : Int) (hS : ∀ b, S b → b < w.heap.size ∧ ¬ X b) (a_l_0 : (cSl 3 fDMark l).rd S w s_l.v) (oL : Sep [] X w) {r : Bool} (hx : x_spec_MarksOk l n = some r) :
  Ret Tryd.prog 45 [s_l.v, (.int .i64 n)] w (fun u w' => ∃ _ : Unit, u = (.bool r) ∧ Gives X S w [] [] w') := by
 unfold x_spec_MarksOk at hx
 refine enter Tryd.func45 rfl Tryd.ntmps45 (by kernel_rfl) rfl ?_
 have hM := St.enter oL hS
 have hM := hM.addE (r := rV s_l.v (cSl 3 fDMark l)) a_l_0
 refine wc_sr ?_
 refine was rfl rfl ?_
 refine wl_sq ?_
 refine wc_seq ?_
 refine wc_sr ?_
 refine wmv rfl rfl ?_
 refine wv rfl (r_lenC Tryd.underlying33 rfl (hM.seeR (.head _))) ?_
 refine wmv rfl rfl ?_
 refine wl_sq ?_
 refine wc_block ?_
 obtain ⟨y264, hx, hx265⟩ := bind_some' hx
 have hl269 := Cs.le (hM.seeR (.head _))
 refine wc_loop (un fun (m266 : Nat) => fun (k267 : Nat) => [(0, s_l.v), (1, (.int .i64 n)), (7, s_l.v), (8, (.int .i64 (l.length : Int))), (9, (.int .i64 (k267 : Int)))]) (un fun (m266 : Nat) => fun (k267 : Nat) w' => St ⟨w, X, S⟩ [] [rV s_l.v (cSl 3 fDMark l)] w' ∧ eachN _ _ m266 k267 () = some y264 ∧ k267 + m266 = l.length) (fun p => p.1) (l.length, 0) ⟨rfl, rfl, rfl, rfl, rfl, trivial⟩ ⟨hM, hx, Nat.zero_add _⟩ ?_
 rintro ⟨m266, k267⟩ w270 ⟨hM, hx, hk268⟩
 refine wc_sr ?_
 refine wv rfl (r_lss rfl rfl) ?_
 refine wl_sq ?_
 refine wc_seq ?_
 refine wc_cond rfl (fun hc272 => ?_) (fun hc272 => ?_)
 ·
  replace hc272 := of_decide_eq_true hc272
  obtain ⟨m273, z274, rfl, hk268, hx, hx275⟩ := eachN_step hx hk268 hc272
  unfold x_spec_MarksOk_f0 x_spec_MarksOk_b0 at hx
  try dsimp only at hx
  refine wc_skip ?_
  refine sq_n ?_
  refine wc_seq ?_
  refine wc_block ?_
  refine wc_sr ?_
  refine wmv rfl rfl ?_
  have hi278 : k267 < l.length := by omega
  refine wv rfl (r_ixC Tryd.underlying33 sz25 rfl rfl (hM.seeR (.head _)) ⟨by omega, hc272⟩) ?_
  refine wv rfl (r_ldC (o := k267 * 3) Tryd.underlying25 sz25 rfl (us := [(.int .i64 ((el l k267).id)), (.int .i64 ((el l k267).from_)), (.int .i64 ((el l k267).to))]) rfl (hM.seeR (.head _)) hi278 ⟨(Cs.get (i := k267) (j := 0) (hM.seeR (.head _)) (fun _ => rfl) hi278 rfl), (Cs.get (i := k267) (j := 1) (hM.seeR (.head _)) (fun _ => rfl) hi278 rfl), (Cs.get (i := k267) (j := 2) (hM.seeR (.head _)) (fun _ => rfl) hi278 rfl), trivial⟩) ?_
  refine w_ex rfl (x_alloc sz25 hM ?_); intro b281 w280 hR282 hM
  dsimp only [Value.cells] at hM
  refine was rfl rfl ?_
  refine w_exu (x_stB #[(.int .i64 ((el l k267).id)), (.int .i64 ((el l k267).from_)), (.int .i64 ((el l k267).to))] sz25 rfl rfl rfl rfl rfl rfl hM ?_); intro w285 hM
  refine wl_sq ?_
  refine wc_seq ?_
  refine wc_draw [(0, 0), (1, 0), (2, 0), (3, 0), (4, 0), (5, 0), (6, 0), (7, 0), (8, 0), (9, 0), (10, 0), (11, 0), (12, 0), (13, 0), (14, 0), (15, 0), (16, 0), (17, 0), (18, 0), (19, 0), (20, 0), (21, 0), (22, 0), (23, 0), (24, 0), (25, 0), (26, 0), (27, 0), (28, 0), (29, 0), (30, 0), (31, 0), (32, 0), (33, 0), (34, 0), (35, 0), (36, 0)] Tryd_mixed (by kernel_rfl) rfl (by kernel_rfl) rfl ?_
  refine ov rfl (fun w' h' => r_fld Tryd.underlying25 rfl rfl sz3 rfl) ?_
  refine ov rfl (fun w' h' => r_ldB Tryd.underlying3 rfl rfl (hM.call h') (.head _) rfl) ?_
  obtain ⟨r289, h290, hx⟩ := bind_some' hx
  refine oc rfl rfl (fun w' h' => (hM.call h').callV fun X S oL hS hR hO => ct_spec_l01In _ X S ((el l k267).id) (1 : Int) (1000000000 : Int) hS  oL h290) ?_
  refine ov rfl (fun w' h' => r_not rfl) ?_
  refine omv rfl rfl ?_
  obtain ⟨c294, hx, hx299⟩ := bind_some' hx
  refine wo_mid 4 [(22, (.bool c294)), (0, s_l.v), (1, (.int .i64 n)), (5, (.int .i64 (k267 : Int))), (6, (.pointer (some ⟨b281, 0, none⟩))), (7, s_l.v), (8, (.int .i64 (l.length : Int))), (9, (.int .i64 (k267 : Int)))] rfl ?_ ?_
  ·
   rcases Bool.eq_false_or_eq_true (!r289) with hg295 | hg295
   ·
    replace hx := xif_t hg295 hx
    refine ogs rfl (isB_no hg295) rfl ?_
    refine ogs rfl (isB_no hg295) rfl ?_
    refine ogs rfl (isB_no hg295) rfl ?_
    refine ov rfl (fun w' h' => p_t rfl hg295 rfl) ?_
    obtain rfl := Option.some.inj hx
    exact mid_onil ⟨rfl, rfl, rfl, rfl, rfl, rfl, rfl, rfl, trivial⟩
   ·
    replace hx := xif_f hg295 hx
    refine ogv rfl hg295 rfl (fun w' h' => r_fld Tryd.underlying25 rfl rfl sz3 rfl) ?_
    refine ogv rfl hg295 rfl (fun w' h' => r_ldB Tryd.underlying3 rfl rfl (hM.call h') (.head _) rfl) ?_
    refine ogv rfl hg295 rfl (fun w' h' => r_lss rfl rfl) ?_
    refine ov rfl (fun w' h' => p_f rfl hg295 rfl) ?_
    obtain rfl := Option.some.inj hx
    exact mid_onil ⟨rfl, rfl, rfl, rfl, rfl, rfl, rfl, rfl, trivial⟩
  replace hx := hx299
  refine omv rfl rfl ?_
  obtain ⟨c304, hx, hx311⟩ := bind_some' hx
  refine wo_mid 6 [(29, (.bool c304)), (0, s_l.v), (1, (.int .i64 n)), (5, (.int .i64 (k267 : Int))), (6, (.pointer (some ⟨b281, 0, none⟩))), (7, s_l.v), (8, (.int .i64 (l.length : Int))), (9, (.int .i64 (k267 : Int)))] rfl ?_ ?_
  ·
   rcases Bool.eq_false_or_eq_true c294 with hg305 | hg305
   ·
    replace hx := xif_t hg305 hx
    refine ogs rfl (isB_no hg305) rfl ?_
    refine ogs rfl (isB_no hg305) rfl ?_
    refine ogs rfl (isB_no hg305) rfl ?_
    refine ogs rfl (isB_no hg305) rfl ?_
    refine ogs rfl (isB_no hg305) rfl ?_
    refine ov rfl (fun w' h' => p_t rfl hg305 rfl) ?_
    obtain rfl := Option.some.inj hx
    exact mid_onil ⟨rfl, rfl, rfl, rfl, rfl, rfl, rfl, rfl, trivial⟩
   ·
    replace hx := xif_f hg305 hx
    refine ogv rfl hg305 rfl (fun w' h' => r_fld Tryd.underlying25 rfl rfl sz3 rfl) ?_
    refine ogv rfl hg305 rfl (fun w' h' => r_ldB Tryd.underlying3 rfl rfl (hM.call h') (.head _) rfl) ?_
    refine ogv rfl hg305 rfl (fun w' h' => r_fld Tryd.underlying25 rfl rfl sz3 rfl) ?_
    refine ogv rfl hg305 rfl (fun w' h' => r_ldB Tryd.underlying3 rfl rfl (hM.call h') (.head _) rfl) ?_
    refine ogv rfl hg305 rfl (fun w' h' => r_gtr rfl rfl) ?_
    refine ov rfl (fun w' h' => p_f rfl hg305 rfl) ?_
    obtain rfl := Option.some.inj hx
    exact mid_onil ⟨rfl, rfl, rfl, rfl, rfl, rfl, rfl, rfl, trivial⟩
  replace hx := hx311
  refine omv rfl rfl ?_
  obtain ⟨c318, hx, hx324⟩ := bind_some' hx
  refine wo_mid 5 [(35, (.bool c318)), (0, s_l.v), (1, (.int .i64 n)), (5, (.int .i64 (k267 : Int))), (6, (.pointer (some ⟨b281, 0, none⟩))), (7, s_l.v), (8, (.int .i64 (l.length : Int))), (9, (.int .i64 (k267 : Int)))] rfl ?_ ?_
  ·
   rcases Bool.eq_false_or_eq_true c304 with hg319 | hg319
   ·
    replace hx := xif_t hg319 hx
    refine ogs rfl (isB_no hg319) rfl ?_
    refine ogs rfl (isB_no hg319) rfl ?_
    refine ogs rfl (isB_no hg319) rfl ?_
    refine ogs rfl (isB_no hg319) rfl ?_
    refine ov rfl (fun w' h' => p_t rfl hg319 rfl) ?_
    obtain rfl := Option.some.inj hx
    exact mid_onil ⟨rfl, rfl, rfl, rfl, rfl, rfl, rfl, rfl, trivial⟩
   ·
    replace hx := xif_f hg319 hx
    refine ogv rfl hg319 rfl (fun w' h' => r_fld Tryd.underlying25 rfl rfl sz3 rfl) ?_
    refine ogv rfl hg319 rfl (fun w' h' => r_ldB Tryd.underlying3 rfl rfl (hM.call h') (.head _) rfl) ?_
    refine ogv rfl hg319 rfl (fun w' h' => r_move rfl) ?_
    refine ogv rfl hg319 rfl (fun w' h' => r_gtr rfl rfl) ?_
    refine ov rfl (fun w' h' => p_f rfl hg319 rfl) ?_
    obtain rfl := Option.some.inj hx
    exact mid_onil ⟨rfl, rfl, rfl, rfl, rfl, rfl, rfl, rfl, trivial⟩
  replace hx := hx324
  refine omv rfl rfl ?_
  obtain ⟨c330, hx, hx361⟩ := bind_some' hx
  refine wo_mid 14 [(50, (.bool c330)), (0, s_l.v), (1, (.int .i64 n)), (7, s_l.v), (8, (.int .i64 (l.length : Int))), (9, (.int .i64 (k267 : Int)))] rfl ?_ ?_
  ·
   rcases Bool.eq_false_or_eq_true c318 with hg331 | hg331
   ·
    replace hx := xif_t hg331 hx
    refine ogs rfl (isB_no hg331) rfl ?_
    refine ogs rfl (isB_no hg331) rfl ?_
    refine ogs rfl (isB_no hg331) rfl ?_
    refine ogs rfl rfl rfl ?_
    refine ogs rfl rfl rfl ?_
    refine ogs rfl rfl rfl ?_
    refine ogs rfl rfl rfl ?_
    refine ogs rfl rfl rfl ?_
    refine ogs rfl rfl rfl ?_
    refine ogs rfl rfl rfl ?_
    refine ogs rfl rfl rfl ?_
    refine ogs rfl rfl rfl ?_
    refine ogs rfl (isB_no hg331) rfl ?_
    refine ov rfl (fun w' h' => p_t rfl hg331 rfl) ?_
    obtain rfl := Option.some.inj hx
    exact mid_onil ⟨rfl, rfl, rfl, rfl, rfl, rfl, trivial⟩
   ·
    replace hx := xif_f hg331 hx
    refine ogv rfl hg331 rfl (fun w' h' => r_move rfl) ?_
    refine ogv rfl hg331 rfl (fun w' h' => r_gtr rfl rfl) ?_
    refine ogv rfl hg331 rfl (fun w' h' => r_move rfl) ?_
    obtain ⟨c365, hx, hx379⟩ := bind_some' hx
    refine wo_mid 10 [(49, (.bool c365)), (0, s_l.v), (1, (.int .i64 n)), (7, s_l.v), (8, (.int .i64 (l.length : Int))), (9, (.int .i64 (k267 : Int))), (36, (.bool c318)), (37, (.int .i64 (k267 : Int))), (38, (.bool (decide ((0 : Int) < (k267 : Int))))), (39, (.bool (decide ((0 : Int) < (k267 : Int)))))] rfl ?_ ?_
    ·
     rcases Bool.eq_false_or_eq_true (decide ((0 : Int) < (k267 : Int))) with hg366 | hg366
     ·
      replace hx := xif_t hg366 hx
      refine ogv rfl hg366 rfl (fun w' h' => r_move rfl) ?_
      refine ogv rfl hg366 rfl (fun w' h' => r_move rfl) ?_
      obtain ⟨hg383, hx⟩ := xg_some hx
      refine ogv rfl hg366 rfl (fun w' h' => r_sub rfl rfl hg383) ?_
      obtain ⟨hg386, hx⟩ := xg_some hx
      have hi385 : (((k267 : Int) - 1).toNat) < l.length := by omega
      refine ogv rfl hg366 rfl (fun w' h' => r_ixC Tryd.underlying33 sz25 rfl rfl ((hM.call h').seeR (.head _)) hg386) ?_
      refine ogv rfl hg366 rfl (fun w' h' => r_fldC (i := (((k267 : Int) - 1).toNat)) Tryd.underlying25 rfl rfl sz3 rfl ((hM.call h').seeR (.head _)) hi385) ?_
      refine ogv rfl hg366 rfl (fun w' h' => r_ld Tryd.underlying3 rfl rfl (Cs.get (i := (((k267 : Int) - 1).toNat)) (j := 0) ((hM.call h').seeR (.head _)) (fun _ => rfl) hi385 rfl)) ?_
      refine ogv rfl hg366 rfl (fun w' h' => r_fld Tryd.underlying25 rfl rfl sz3 rfl) ?_
      refine ogv rfl hg366 rfl (fun w' h' => r_ldB Tryd.underlying3 rfl rfl (hM.call h') (.head _) rfl) ?_
      refine ogv rfl hg366 rfl (fun w' h' => r_geq rfl rfl) ?_
      refine ogv rfl hg331 rfl (fun w' h' => p_t rfl hg366 rfl) ?_
      obtain rfl := Option.some.inj hx
      exact mid_onil ⟨rfl, rfl, rfl, rfl, rfl, rfl, rfl, rfl, rfl, rfl, trivial⟩
     ·
      replace hx := xif_f hg366 hx
      refine ogs rfl (isB_no hg366) rfl ?_
      refine ogs rfl (isB_no hg366) rfl ?_
      refine ogs rfl (isB_no hg366) rfl ?_
      refine ogs rfl (isB_no hg366) rfl ?_
      refine ogs rfl (isB_no hg366) rfl ?_
      refine ogs rfl (isB_no hg366) rfl ?_
      refine ogs rfl (isB_no hg366) rfl ?_
      refine ogs rfl (isB_no hg366) rfl ?_
      refine ogs rfl (isB_no hg366) rfl ?_
      refine ogv rfl hg331 rfl (fun w' h' => p_f rfl hg366 rfl) ?_
      obtain rfl := Option.some.inj hx
      exact mid_onil ⟨rfl, rfl, rfl, rfl, rfl, rfl, rfl, rfl, rfl, rfl, trivial⟩
    replace hx := hx379
    refine ov rfl (fun w' h' => p_f rfl hg331 rfl) ?_
    obtain rfl := Option.some.inj hx
    exact mid_onil ⟨rfl, rfl, rfl, rfl, rfl, rfl, trivial⟩
  replace hx := hx361
  refine o_nilM hM fun w392 hM => ?_
  refine sq_n ?_
  refine wc_cond rfl (fun hc394 => ?_) (fun hc394 => ?_)
  ·
   replace hx := xif_t hc394 hx
   refine wc_sr ?_
   refine was rfl rfl ?_
   refine wl_sq ?_
   refine wc_ret ?_
   refine bk_ret ?_
   refine sq_ret ?_
   refine lp1_ret ?_
   obtain rfl := Option.some.inj hx
   obtain rfl := Option.some.inj hx275
   replace hx := hx265
   try dsimp only [Sum.elim_inl, Sum.elim_inr] at hx
   refine bk_ret ?_
   refine sq_ret ?_
   obtain rfl := Option.some.inj hx
   refine fin_ret [(.bool false)] ⟨rfl, trivial⟩ ?_
   replace hM := hM.t0
   have hM := hM.fewer rsN
   exact ⟨(), rfl, hM.gives⟩
  ·
   replace hx := xif_f hc394 hx
   refine wc_skip ?_
   refine bk_n ?_
   refine sq_n ?_
   refine wc_region ?_
   refine wv rfl (r_add rfl rfl ⟨by omega, by omega⟩) ?_
   refine wmv rfl rfl ?_
   refine wl_nil ?_
   obtain rfl := Option.some.inj hx
   replace hM := hM.t0
   exact lp_end (m273, k267 + 1) (Nat.lt_succ_self _) ⟨rfl, rfl, rfl, rfl, rfl, trivial⟩ ⟨hM, hx275, hk268⟩
 ·
  replace hc272 := of_decide_eq_false hc272
  obtain rfl := eachN_end hx hk268 hc272
  refine wc_exit ?_
  refine sq_exit ?_
  refine lp1_exit ?_
  replace hx := hx265
  try dsimp only [Sum.elim_inl, Sum.elim_inr] at hx
  refine bk_here ?_
  refine sq_n ?_
  refine wc_sr ?_
  refine wmv rfl rfl ?_
  obtain ⟨r399, h400, hx⟩ := bind_some' hx
  refine w_call rfl rfl (hM.callV fun X S oL hS hR hO => ct_spec_l01In _ X S n (0 : Int) (200 : Int) hS  oL h400) ?_
  rintro _ w401 ⟨rfl, hR402⟩
  have hM := hM.call hR402
  refine wmv rfl rfl ?_
  obtain ⟨c404, hx, hx409⟩ := bind_some' hx
  refine wl_mid 4 (fun _ : Unit => [(58, (.bool c404))]) (fun _ w' => St ⟨w, X, S⟩ [] [rV s_l.v (cSl 3 fDMark l)] w') ?_ ?_
  ·
   rcases Bool.eq_false_or_eq_true r399 with hg405 | hg405
   ·
    replace hx := xif_t hg405 hx
    refine gv rfl hg405 rfl (r_move rfl) ?_
    refine gv rfl hg405 rfl (r_lenC Tryd.underlying33 rfl (hM.seeR (.head _))) ?_
    refine gv rfl hg405 rfl (r_leq rfl rfl) ?_
    refine wv rfl (p_t rfl hg405 rfl) ?_
    obtain rfl := Option.some.inj hx
    exact mid_nil () ⟨rfl, trivial⟩ hM
   ·
    replace hx := xif_f hg405 hx
    refine gs rfl (isB_no hg405) rfl ?_
    refine gs rfl (isB_no hg405) rfl ?_
    refine gs rfl (isB_no hg405) rfl ?_
    refine wv rfl (p_f rfl hg405 rfl) ?_
    obtain rfl := Option.some.inj hx
    exact mid_nil () ⟨rfl, trivial⟩ hM
  rintro _ w413 hM
  replace hx := hx409
  refine was rfl rfl ?_
  refine wl_sq ?_
  refine wc_ret ?_
  obtain rfl := Option.some.inj hx
  refine fin_ret [(.bool c404)] ⟨rfl, trivial⟩ ?_
  replace hM := hM.t0
  have hM := hM.fewer rsN
  exact ⟨(), rfl, hM.gives⟩

noncomputable def x_spec_MarkDrop_b0 (id_ : Int) (_l : List DMark) (_k10 : Nat) (x64 : DMark) (out11 : List DMark) : Option (Lr (List DMark) (List DMark)) :=
  bif !decide ((x64.id) = id_) then (xg (out11.length < 1099511627776) <| some (Lr.go (out11 ++ [x64]))) else (some (Lr.go out11))
noncomputable def x_spec_MarkDrop_f0 (id_ : Int) (l : List DMark) (k10 : Nat) (s65 : List DMark) : Option (Lr (List DMark) (List DMark)) := x_spec_MarkDrop_b0 id_ l k10 (el l k10) s65
noncomputable def x_spec_MarkDrop (l : List DMark) (id_ : Int) : Option (List DMark) :=
  Option.bind (eachN (x_spec_MarkDrop_f0 id_ l) (fun (s65 : List DMark) => (s65 : List DMark)) l.length 0 []) fun (y66 : List DMark) => some y66
theorem ct_spec_MarkDrop (w : World) (X S : Bs) (l : List DMark) (s_l : Sv) (id_ : Int) (hS : ∀ b, S b → b < w.heap.size ∧ ¬ X b) (a_l_0 : (cSl 3 fDMark l).rd S w s_l.v) (oL : Sep [] X w) {r : List DMark} (hx : x_spec_MarkDrop l id_ = some r) :
  Ret Tryd.prog 44 [s_l.v, (.int .i64 id_)] w (fun u w' => ∃ y : Sv, u = y.v ∧ Gives X S w [oC (cSl 3 fDMark r) y.v] [] w') := by
 unfold x_spec_MarkDrop at hx
 refine enter Tryd.func44 rfl Tryd.ntmps44 (by kernel_rfl) rfl ?_
 have hM := St.enter oL hS
 have hM := hM.addE (r := rV s_l.v (cSl 3 fDMark l)) a_l_0
 refine wc_sr ?_
 refine was rfl rfl ?_
 refine wl_sq ?_
 refine wc_sr ?_
 refine w_ex rfl (x_empty (f := fDMark) Tryd.underlying33 sz25 (fun _ => rfl) hM ?_); intro s73 w72 hR74 hM
 refine was rfl rfl ?_
 refine wl_sq ?_
 refine wc_seq ?_
 refine wc_sr ?_
 refine wmv rfl rfl ?_
 refine wv rfl (r_lenC Tryd.underlying33 rfl (hM.seeR (.head _))) ?_
 refine wmv rfl rfl ?_
 refine wl_sq ?_
 refine wc_block ?_
 obtain ⟨y80, hx, hx81⟩ := bind_some' hx
 have hl88 := Cs.le (hM.seeR (.head _))
 refine wc_loop (un fun (m85 : Nat) => un fun (k86 : Nat) => un fun (out82 : List DMark) => fun (s84 : Sv) => [(1, (.int .i64 id_)), (5, s84.v), (9, s_l.v), (10, (.int .i64 (l.length : Int))), (11, (.int .i64 (k86 : Int)))]) (un fun (m85 : Nat) => un fun (k86 : Nat) => un fun (out82 : List DMark) => fun (s84 : Sv) w' => St ⟨w, X, S⟩ [oC (cSl 3 fDMark out82) s84.v] [rV s_l.v (cSl 3 fDMark l)] w' ∧ eachN _ _ m85 k86 out82 = some y80 ∧ k86 + m85 = l.length) (fun p => p.1) (l.length, 0, [], s73) ⟨rfl, rfl, rfl, rfl, rfl, trivial⟩ ⟨hM, hx, Nat.zero_add _⟩ ?_
 rintro ⟨m85, k86, out82, s84⟩ w89 ⟨hM, hx, hk87⟩
 refine wc_sr ?_
 refine wv rfl (r_lss rfl rfl) ?_
 refine wl_sq ?_
 refine wc_seq ?_
 refine wc_cond rfl (fun hc91 => ?_) (fun hc91 => ?_)
 ·
  replace hc91 := of_decide_eq_true hc91
  obtain ⟨m92, z93, rfl, hk87, hx, hx94⟩ := eachN_step hx hk87 hc91
  unfold x_spec_MarkDrop_f0 x_spec_MarkDrop_b0 at hx
  try dsimp only at hx
  refine wc_skip ?_
  refine sq_n ?_
  refine wc_seq ?_
  refine wc_block ?_
  refine wc_sr ?_
  have hi96 : k86 < l.length := by omega
  refine wv rfl (r_ixC Tryd.underlying33 sz25 rfl rfl (hM.seeR (.head _)) ⟨by omega, hc91⟩) ?_
  refine wv rfl (r_ldC (o := k86 * 3) Tryd.underlying25 sz25 rfl (us := [(.int .i64 ((el l k86).id)), (.int .i64 ((el l k86).from_)), (.int .i64 ((el l k86).to))]) rfl (hM.seeR (.head _)) hi96 ⟨(Cs.get (i := k86) (j := 0) (hM.seeR (.head _)) (fun _ => rfl) hi96 rfl), (Cs.get (i := k86) (j := 1) (hM.seeR (.head _)) (fun _ => rfl) hi96 rfl), (Cs.get (i := k86) (j := 2) (hM.seeR (.head _)) (fun _ => rfl) hi96 rfl), trivial⟩) ?_
  refine w_ex rfl (x_alloc sz25 hM ?_); intro b99 w98 hR100 hM
  dsimp only [Value.cells] at hM
  refine w_exu (x_stB #[(.int .i64 ((el l k86).id)), (.int .i64 ((el l k86).from_)), (.int .i64 ((el l k86).to))] sz25 rfl rfl rfl rfl rfl rfl hM ?_); intro w102 hM
  refine wl_sq ?_
  refine wc_sr ?_
  refine wv rfl (r_fld Tryd.underlying25 rfl rfl sz3 rfl) ?_
  refine wv rfl (r_ldB Tryd.underlying3 rfl rfl hM (.head _) rfl) ?_
  refine wmv rfl rfl ?_
  refine wv rfl (r_neq rfl rfl) ?_
  refine wl_sq ?_
  refine wc_cond rfl (fun hc108 => ?_) (fun hc108 => ?_)
  ·
   replace hx := xif_t hc108 hx
   refine wc_region ?_
   refine wmv rfl rfl ?_
   refine wv rfl (r_ldBS Tryd.underlying25 sz25 rfl (us := [(.int .i64 ((el l k86).id)), (.int .i64 ((el l k86).from_)), (.int .i64 ((el l k86).to))]) rfl hM (.head _) rfl) ?_
   replace hM := hM.p1
   obtain ⟨hg114, hx⟩ := xg_some hx
   refine w_push (f := fDMark) (el l k86) rfl rfl Tryd.underlying33 sz25 rfl rfl rfl rfl (fun _ => rfl) hM (fun _ => zP (pV _ rfl) (zP (pV _ rfl) (zP (pV _ rfl) zN))) rfl hg114 rfl ?_; intro u112 s113 w111 hM
   refine was rfl rfl ?_
   refine wl_nil ?_
   refine bk_n ?_
   refine sq_n ?_
   refine wc_region ?_
   refine wv rfl (r_add rfl rfl ⟨by omega, by omega⟩) ?_
   refine wmv rfl rfl ?_
   refine wl_nil ?_
   obtain rfl := Option.some.inj hx
   replace hM := hM.t1
   exact lp_end (m92, k86 + 1, out82 ++ [el l k86], s113) (Nat.lt_succ_self _) ⟨rfl, rfl, rfl, rfl, rfl, trivial⟩ ⟨hM, hx94, hk87⟩
  ·
   replace hx := xif_f hc108 hx
   refine wc_skip ?_
   refine bk_n ?_
   refine sq_n ?_
   refine wc_region ?_
   refine wv rfl (r_add rfl rfl ⟨by omega, by omega⟩) ?_
   refine wmv rfl rfl ?_
   refine wl_nil ?_
   obtain rfl := Option.some.inj hx
   replace hM := hM.p1
   replace hM := hM.t1
   exact lp_end (m92, k86 + 1, out82, s84) (Nat.lt_succ_self _) ⟨rfl, rfl, rfl, rfl, rfl, trivial⟩ ⟨hM, hx94, hk87⟩
 ·
  replace hc91 := of_decide_eq_false hc91
  obtain rfl := eachN_end hx hk87 hc91
  refine wc_exit ?_
  refine sq_exit ?_
  refine lp1_exit ?_
  replace hx := hx81
  try dsimp only [Sum.elim_inl, Sum.elim_inr] at hx
  refine bk_here ?_
  refine sq_n ?_
  refine wc_sr ?_
  refine wmv rfl rfl ?_
  refine was rfl rfl ?_
  refine wl_sq ?_
  refine wc_ret ?_
  obtain rfl := Option.some.inj hx
  refine fin_ret [s84.v] ⟨rfl, trivial⟩ ?_
  replace hM := hM.t1
  have hM := hM.fewer rsN
  exact ⟨s84, rfl, hM.gives⟩

noncomputable def x_spec_MarkAdd_b0 (id_ : Int) (from_ : Int) (to : Int) (_r11 : List DMark) (_k18 : Nat) (x127 : DMark) (out19 : List DMark) (done20 : Bool) : Option (Lr (List DMark × Bool) (List DMark × Bool)) :=
  Option.bind (bif !done20 then (some (decide (id_ < (x127.id)))) else (some false)) fun c88 => bif c88 then (xg (out19.length < 1099511627776) <| xg ((out19 ++ [(⟨id_, from_, to⟩ : DMark)]).length < 1099511627776) <| some (Lr.go ((out19 ++ [(⟨id_, from_, to⟩ : DMark)]) ++ [x127], true))) else (xg (out19.length < 1099511627776) <| some (Lr.go (out19 ++ [x127], done20)))
noncomputable def x_spec_MarkAdd_f0 (id_ : Int) (from_ : Int) (to : Int) (r11 : List DMark) (k18 : Nat) (s128 : List DMark × Bool) : Option (Lr (List DMark × Bool) (List DMark × Bool)) := x_spec_MarkAdd_b0 id_ from_ to r11 k18 (el r11 k18) s128.1 s128.2
noncomputable def x_spec_MarkAdd (l : List DMark) (n : Int) (id_ : Int) (from_ : Int) (to : Int) : Option (List DMark × Bool) :=
  Option.bind (x_spec_MarkDrop l id_) fun r11 => Option.bind (eachN (x_spec_MarkAdd_f0 id_ from_ to r11) (fun (s128 : List DMark × Bool) => ((s128.1, s128.2) : List DMark × Bool)) r11.length 0 ([], false)) fun (y129 : List DMark × Bool) => bif !y129.2 then (xg (y129.1.length < 1099511627776) <| Option.bind (x_spec_MarksOk l n) fun r146 => Option.bind (bif !r146 then (some true) else (Option.bind (x_spec_MarksOk (y129.1 ++ [(⟨id_, from_, to⟩ : DMark)]) n) fun r163 => some (!r163))) fun c152 => bif c152 then (some ([], false)) else (some (y129.1 ++ [(⟨id_, from_, to⟩ : DMark)], true))) else (Option.bind (x_spec_MarksOk l n) fun r175 => Option.bind (bif !r175 then (some true) else (Option.bind (x_spec_MarksOk y129.1 n) fun r192 => some (!r192))) fun c181 => bif c181 then (some ([], false)) else (some (y129.1, true)))
theorem ct_spec_MarkAdd (w : World) (X S : Bs) (l : List DMark) (s_l : Sv) (n : Int) (id_ : Int) (from_ : Int) (to : Int) (hS : ∀ b, S b → b < w.heap.size ∧ ¬ X b) (a_l_0 : (cSl 3 fDMark l).rd S w s_l.v) (oL : Sep [] X w) {r : List DMark × Bool} (hx : x_spec_MarkAdd l n id_ from_ to = some r) :
  Ret Tryd.prog 35 [s_l.v, (.int .i64 n), (.int .i64 id_), (.int .i64 from_), (.int .i64 to)] w (fun u w' => ∃ y : Sv, u = .tuple #[y.v, (.bool r.2)] ∧ Gives X S w [oC (cSl 3 fDMark r.1) y.v] [] w') := by
 unfold x_spec_MarkAdd at hx
 refine enter Tryd.func35 rfl Tryd.ntmps35 (by kernel_rfl) rfl ?_
 have hM := St.enter oL hS
 have hM := hM.addE (r := rV s_l.v (cSl 3 fDMark l)) a_l_0
 refine wc_sr ?_
 refine was rfl rfl ?_
 refine was rfl rfl ?_
 refine wl_sq ?_
 refine wc_sr ?_
 refine w_ex rfl (x_empty (f := fDMark) Tryd.underlying33 sz25 (fun _ => rfl) hM ?_); intro s205 w204 hR206 hM
 refine was rfl rfl ?_
 refine wl_sq ?_
 refine wc_sr ?_
 refine was rfl rfl ?_
 refine wl_sq ?_
 refine wc_seq ?_
 refine wc_sr ?_
 refine wmv rfl rfl ?_
 refine wmv rfl rfl ?_
 obtain ⟨r212, h213, hx⟩ := bind_some' hx
 refine w_call rfl rfl (hM.callO (l := []) fun X S oL hS hR hO => ct_spec_MarkDrop _ X S l s_l id_ hS (hR _ (.head _)) oL h213) ?_
 rintro _ w214 ⟨s215, rfl, hM⟩
 dsimp only [List.cons_append, List.nil_append] at hM
 refine wv rfl (r_lenC Tryd.underlying33 rfl (hM.seeO (.head _))) ?_
 refine wmv rfl rfl ?_
 refine wl_sq ?_
 refine wc_block ?_
 obtain ⟨y219, hx, hx220⟩ := bind_some' hx
 have hl228 := Cs.le (hM.seeO (.head _))
 refine wc_loop (un fun (m225 : Nat) => un fun (k226 : Nat) => un fun (out221 : List DMark) => un fun (done222 : Bool) => fun (s224 : Sv) => [(0, s_l.v), (1, (.int .i64 n)), (2, (.int .i64 id_)), (3, (.int .i64 from_)), (4, (.int .i64 to)), (12, s224.v), (13, (.bool done222)), (19, s215.v), (20, (.int .i64 (r212.length : Int))), (21, (.int .i64 (k226 : Int)))]) (un fun (m225 : Nat) => un fun (k226 : Nat) => un fun (out221 : List DMark) => un fun (done222 : Bool) => fun (s224 : Sv) w' => St ⟨w, X, S⟩ [oC (cSl 3 fDMark r212) s215.v, oC (cSl 3 fDMark out221) s224.v] [rV s_l.v (cSl 3 fDMark l)] w' ∧ eachN _ _ m225 k226 (out221, done222) = some y219 ∧ k226 + m225 = r212.length) (fun p => p.1) (r212.length, 0, [], false, s205) ⟨rfl, rfl, rfl, rfl, rfl, rfl, rfl, rfl, rfl, rfl, trivial⟩ ⟨hM, hx, Nat.zero_add _⟩ ?_
 rintro ⟨m225, k226, out221, done222, s224⟩ w229 ⟨hM, hx, hk227⟩
 refine wc_sr ?_
 refine wv rfl (r_lss rfl rfl) ?_
 refine wl_sq ?_
 refine wc_seq ?_
 refine wc_cond rfl (fun hc231 => ?_) (fun hc231 => ?_)
 ·
  replace hc231 := of_decide_eq_true hc231
  obtain ⟨m232, z233, rfl, hk227, hx, hx234⟩ := eachN_step hx hk227 hc231
  unfold x_spec_MarkAdd_f0 x_spec_MarkAdd_b0 at hx
  try dsimp only at hx
  refine wc_skip ?_
  refine sq_n ?_
  refine wc_seq ?_
  refine wc_block ?_
  refine wc_sr ?_
  have hi236 : k226 < r212.length := by omega
  refine wv rfl (r_ixC Tryd.underlying33 sz25 rfl rfl (hM.seeO (.head _)) ⟨by omega, hc231⟩) ?_
  refine wv rfl (r_ldC (o := k226 * 3) Tryd.underlying25 sz25 rfl (us := [(.int .i64 ((el r212 k226).id)), (.int .i64 ((el r212 k226).from_)), (.int .i64 ((el r212 k226).to))]) rfl (hM.seeO (.head _)) hi236 ⟨(Cs.get (i := k226) (j := 0) (hM.seeO (.head _)) (fun _ => rfl) hi236 rfl), (Cs.get (i := k226) (j := 1) (hM.seeO (.head _)) (fun _ => rfl) hi236 rfl), (Cs.get (i := k226) (j := 2) (hM.seeO (.head _)) (fun _ => rfl) hi236 rfl), trivial⟩) ?_
  refine w_ex rfl (x_alloc sz25 hM ?_); intro b239 w238 hR240 hM
  dsimp only [Value.cells] at hM
  refine w_exu (x_stB #[(.int .i64 ((el r212 k226).id)), (.int .i64 ((el r212 k226).from_)), (.int .i64 ((el r212 k226).to))] sz25 rfl rfl rfl rfl rfl rfl hM ?_); intro w242 hM
  refine wl_sq ?_
  refine wc_seq ?_
  refine wc_sr ?_
  refine wmv rfl rfl ?_
  refine wv rfl (r_not rfl) ?_
  refine wmv rfl rfl ?_
  obtain ⟨c247, hx, hx253⟩ := bind_some' hx
  refine wl_mid 5 (fun _ : Unit => [(32, (.bool c247)), (0, s_l.v), (1, (.int .i64 n)), (2, (.int .i64 id_)), (3, (.int .i64 from_)), (4, (.int .i64 to)), (12, s224.v), (13, (.bool done222)), (15, (.pointer (some ⟨b239, 0, none⟩))), (19, s215.v), (20, (.int .i64 (r212.length : Int))), (21, (.int .i64 (k226 : Int)))]) (fun _ w' => St ⟨w, X, S⟩ [oBox b239 #[(.int .i64 ((el r212 k226).id)), (.int .i64 ((el r212 k226).from_)), (.int .i64 ((el r212 k226).to))] 25, oC (cSl 3 fDMark r212) s215.v, oC (cSl 3 fDMark out221) s224.v] [rV s_l.v (cSl 3 fDMark l)] w') ?_ ?_
  ·
   rcases Bool.eq_false_or_eq_true (!done222) with hg248 | hg248
   ·
    replace hx := xif_t hg248 hx
    refine gv rfl hg248 rfl (r_fld Tryd.underlying25 rfl rfl sz3 rfl) ?_
    refine gv rfl hg248 rfl (r_ldB Tryd.underlying3 rfl rfl hM (.head _) rfl) ?_
    refine gv rfl hg248 rfl (r_move rfl) ?_
    refine gv rfl hg248 rfl (r_gtr rfl rfl) ?_
    refine wv rfl (p_t rfl hg248 rfl) ?_
    obtain rfl := Option.some.inj hx
    exact mid_nil () ⟨rfl, rfl, rfl, rfl, rfl, rfl, rfl, rfl, rfl, rfl, rfl, rfl, trivial⟩ hM
   ·
    replace hx := xif_f hg248 hx
    refine gs rfl (isB_no hg248) rfl ?_
    refine gs rfl (isB_no hg248) rfl ?_
    refine gs rfl (isB_no hg248) rfl ?_
    refine gs rfl (isB_no hg248) rfl ?_
    refine wv rfl (p_f rfl hg248 rfl) ?_
    obtain rfl := Option.some.inj hx
    exact mid_nil () ⟨rfl, rfl, rfl, rfl, rfl, rfl, rfl, rfl, rfl, rfl, rfl, rfl, trivial⟩ hM
  rintro _ w258 hM
  replace hx := hx253
  refine wl_sq ?_
  refine wc_cond rfl (fun hc259 => ?_) (fun hc259 => ?_)
  ·
   replace hx := xif_t hc259 hx
   refine wc_sr ?_
   refine wmv rfl rfl ?_
   refine wmv rfl rfl ?_
   refine wmv rfl rfl ?_
   refine wmv rfl rfl ?_
   refine wv rfl (r_build (cells := #[(.int .i64 id_), (.int .i64 from_), (.int .i64 to)]) rfl (by kernel_rfl)) ?_
   replace hM := hM.p2
   obtain ⟨hg268, hx⟩ := xg_some hx
   refine w_push (f := fDMark) (⟨id_, from_, to⟩ : DMark) rfl rfl Tryd.underlying33 sz25 rfl rfl rfl rfl (fun _ => rfl) hM (fun _ => zP (pV _ rfl) (zP (pV _ rfl) (zP (pV _ rfl) zN))) rfl hg268 rfl ?_; intro u266 s267 w265 hM
   refine was rfl rfl ?_
   refine wl_sq ?_
   refine wc_region ?_
   refine was rfl rfl ?_
   refine wl_sq ?_
   refine wc_region ?_
   refine wmv rfl rfl ?_
   refine wv rfl (r_ldBS Tryd.underlying25 sz25 rfl (us := [(.int .i64 ((el r212 k226).id)), (.int .i64 ((el r212 k226).from_)), (.int .i64 ((el r212 k226).to))]) rfl hM (.tail _ (.head _)) rfl) ?_
   obtain ⟨hg276, hx⟩ := xg_some hx
   refine w_push (f := fDMark) (el r212 k226) rfl rfl Tryd.underlying33 sz25 rfl rfl rfl rfl (fun _ => rfl) hM (fun _ => zP (pV _ rfl) (zP (pV _ rfl) (zP (pV _ rfl) zN))) rfl hg276 rfl ?_; intro u274 s275 w273 hM
   refine was rfl rfl ?_
   refine wl_nil ?_
   refine bk_n ?_
   refine sq_n ?_
   refine wc_region ?_
   refine wv rfl (r_add rfl rfl ⟨by omega, by omega⟩) ?_
   refine wmv rfl rfl ?_
   refine wl_nil ?_
   obtain rfl := Option.some.inj hx
   replace hM := hM.p2
   replace hM := hM.t2
   exact lp_end (m232, k226 + 1, (out221 ++ [(⟨id_, from_, to⟩ : DMark)]) ++ [el r212 k226], true, s275) (Nat.lt_succ_self _) ⟨rfl, rfl, rfl, rfl, rfl, rfl, rfl, rfl, rfl, rfl, trivial⟩ ⟨hM, hx234, hk227⟩
  ·
   replace hx := xif_f hc259 hx
   refine wc_skip ?_
   refine sq_n ?_
   refine wc_region ?_
   refine wmv rfl rfl ?_
   refine wv rfl (r_ldBS Tryd.underlying25 sz25 rfl (us := [(.int .i64 ((el r212 k226).id)), (.int .i64 ((el r212 k226).from_)), (.int .i64 ((el r212 k226).to))]) rfl hM (.head _) rfl) ?_
   replace hM := hM.p2
   obtain ⟨hg285, hx⟩ := xg_some hx
   refine w_push (f := fDMark) (el r212 k226) rfl rfl Tryd.underlying33 sz25 rfl rfl rfl rfl (fun _ => rfl) hM (fun _ => zP (pV _ rfl) (zP (pV _ rfl) (zP (pV _ rfl) zN))) rfl hg285 rfl ?_; intro u283 s284 w282 hM
   refine was rfl rfl ?_
   refine wl_nil ?_
   refine bk_n ?_
   refine sq_n ?_
   refine wc_region ?_
   refine wv rfl (r_add rfl rfl ⟨by omega, by omega⟩) ?_
   refine wmv rfl rfl ?_
   refine wl_nil ?_
   obtain rfl := Option.some.inj hx
   replace hM := hM.p2
   replace hM := hM.t2
   exact lp_end (m232, k226 + 1, out221 ++ [el r212 k226], done222, s284) (Nat.lt_succ_self _) ⟨rfl, rfl, rfl, rfl, rfl, rfl, rfl, rfl, rfl, rfl, trivial⟩ ⟨hM, hx234, hk227⟩
 ·
  replace hc231 := of_decide_eq_false hc231
  obtain rfl := eachN_end hx hk227 hc231
  refine wc_exit ?_
  refine sq_exit ?_
  refine lp1_exit ?_
  replace hx := hx220
  try dsimp only [Sum.elim_inl, Sum.elim_inr] at hx
  refine bk_here ?_
  refine sq_n ?_
  refine wc_seq ?_
  refine wc_sr ?_
  refine wmv rfl rfl ?_
  refine wv rfl (r_not rfl) ?_
  refine wl_sq ?_
  refine wc_cond rfl (fun hc291 => ?_) (fun hc291 => ?_)
  ·
   replace hx := xif_t hc291 hx
   refine wc_region ?_
   refine wmv rfl rfl ?_
   refine wmv rfl rfl ?_
   refine wmv rfl rfl ?_
   refine wmv rfl rfl ?_
   refine wv rfl (r_build (cells := #[(.int .i64 id_), (.int .i64 from_), (.int .i64 to)]) rfl (by kernel_rfl)) ?_
   replace hM := hM.p1
   obtain ⟨hg300, hx⟩ := xg_some hx
   refine w_push (f := fDMark) (⟨id_, from_, to⟩ : DMark) rfl rfl Tryd.underlying33 sz25 rfl rfl rfl rfl (fun _ => rfl) hM (fun _ => zP (pV _ rfl) (zP (pV _ rfl) (zP (pV _ rfl) zN))) rfl hg300 rfl ?_; intro u298 s299 w297 hM
   refine was rfl rfl ?_
   refine wl_sq ?_
   refine wc_seq ?_
   refine wc_sr ?_
   refine wmv rfl rfl ?_
   refine wmv rfl rfl ?_
   obtain ⟨r304, h305, hx⟩ := bind_some' hx
   refine w_call rfl rfl (hM.callV fun X S oL hS hR hO => ct_spec_MarksOk _ X S l s_l n hS (hR _ (.head _)) oL h305) ?_
   rintro _ w306 ⟨rfl, hR307⟩
   have hM := hM.call hR307
   refine wv rfl (r_not rfl) ?_
   refine wmv rfl rfl ?_
   obtain ⟨c310, hx, hx319⟩ := bind_some' hx
   refine wl_mid 5 (fun _ : Unit => [(63, (.bool c310)), (12, s299.v)]) (fun _ w' => St ⟨w, X, S⟩ [oC (cSl 3 fDMark (out221 ++ [(⟨id_, from_, to⟩ : DMark)])) s299.v, oC (cSl 3 fDMark r212) s215.v] [rV s_l.v (cSl 3 fDMark l)] w') ?_ ?_
   ·
    rcases Bool.eq_false_or_eq_true (!r304) with hg311 | hg311
    ·
     replace hx := xif_t hg311 hx
     refine gs rfl (isB_no hg311) rfl ?_
     refine gs rfl (isB_no hg311) rfl ?_
     refine gs rfl (isB_no hg311) rfl ?_
     refine gs rfl (isB_no hg311) rfl ?_
     refine wv rfl (p_t rfl hg311 rfl) ?_
     obtain rfl := Option.some.inj hx
     exact mid_nil () ⟨rfl, rfl, trivial⟩ hM
    ·
     replace hx := xif_f hg311 hx
     refine gv rfl hg311 rfl (r_move rfl) ?_
     refine gv rfl hg311 rfl (r_move rfl) ?_
     obtain ⟨r322, h323, hx⟩ := bind_some' hx
     refine gc rfl hg311 rfl rfl (hM.callV fun X S oL hS hR hO => ct_spec_MarksOk _ X S (out221 ++ [(⟨id_, from_, to⟩ : DMark)]) s299 n hS (seeA hO (.head _)) oL h323) ?_
     rintro _ w324 ⟨rfl, hR325⟩
     have hM := hM.call hR325
     refine gv rfl hg311 rfl (r_not rfl) ?_
     refine wv rfl (p_f rfl hg311 rfl) ?_
     obtain rfl := Option.some.inj hx
     exact mid_nil () ⟨rfl, rfl, trivial⟩ hM
   rintro _ w327 hM
   replace hx := hx319
   refine wl_sq ?_
   refine wc_cond rfl (fun hc328 => ?_) (fun hc328 => ?_)
   ·
    replace hx := xif_t hc328 hx
    refine wc_sr ?_
    refine was rfl rfl ?_
    refine was rfl rfl ?_
    refine wl_sq ?_
    refine wc_ret ?_
    refine sq_ret ?_
    obtain rfl := Option.some.inj hx
    have hM := hM.nil0 (T := DMark) 3 fDMark
    refine fin_ret [nS.v, (.bool false)] ⟨rfl, rfl, trivial⟩ ?_
    replace hM := hM.t1
    have hM := hM.fewer rsN
    exact ⟨nS, rfl, hM.gives⟩
   ·
    replace hx := xif_f hc328 hx
    refine wc_skip ?_
    refine sq_n ?_
    refine wc_sr ?_
    refine wmv rfl rfl ?_
    refine was rfl rfl ?_
    refine was rfl rfl ?_
    refine wl_sq ?_
    refine wc_ret ?_
    obtain rfl := Option.some.inj hx
    refine fin_ret [s299.v, (.bool true)] ⟨rfl, rfl, trivial⟩ ?_
    replace hM := hM.t1
    have hM := hM.fewer rsN
    exact ⟨s299, rfl, hM.gives⟩
  ·
   replace hx := xif_f hc291 hx
   refine wc_skip ?_
   refine sq_n ?_
   refine wc_seq ?_
   refine wc_sr ?_
   refine wmv rfl rfl ?_
   refine wmv rfl rfl ?_
   obtain ⟨r337, h338, hx⟩ := bind_some' hx
   refine w_call rfl rfl (hM.callV fun X S oL hS hR hO => ct_spec_MarksOk _ X S l s_l n hS (hR _ (.head _)) oL h338) ?_
   rintro _ w339 ⟨rfl, hR340⟩
   have hM := hM.call hR340
   refine wv rfl (r_not rfl) ?_
   refine wmv rfl rfl ?_
   obtain ⟨c343, hx, hx352⟩ := bind_some' hx
   refine wl_mid 5 (fun _ : Unit => [(63, (.bool c343)), (12, s224.v)]) (fun _ w' => St ⟨w, X, S⟩ [oC (cSl 3 fDMark r212) s215.v, oC (cSl 3 fDMark out221) s224.v] [rV s_l.v (cSl 3 fDMark l)] w') ?_ ?_
   ·
    rcases Bool.eq_false_or_eq_true (!r337) with hg344 | hg344
    ·
     replace hx := xif_t hg344 hx
     refine gs rfl (isB_no hg344) rfl ?_
     refine gs rfl (isB_no hg344) rfl ?_
     refine gs rfl (isB_no hg344) rfl ?_
     refine gs rfl (isB_no hg344) rfl ?_
     refine wv rfl (p_t rfl hg344 rfl) ?_
     obtain rfl := Option.some.inj hx
     exact mid_nil () ⟨rfl, rfl, trivial⟩ hM
    ·
     replace hx := xif_f hg344 hx
     refine gv rfl hg344 rfl (r_move rfl) ?_
     refine gv rfl hg344 rfl (r_move rfl) ?_
     obtain ⟨r355, h356, hx⟩ := bind_some' hx
     refine gc rfl hg344 rfl rfl (hM.callV fun X S oL hS hR hO => ct_spec_MarksOk _ X S out221 s224 n hS (seeA hO (.tail _ (.head _))) oL h356) ?_
     rintro _ w357 ⟨rfl, hR358⟩
     have hM := hM.call hR358
     refine gv rfl hg344 rfl (r_not rfl) ?_
     refine wv rfl (p_f rfl hg344 rfl) ?_
     obtain rfl := Option.some.inj hx
     exact mid_nil () ⟨rfl, rfl, trivial⟩ hM
   rintro _ w360 hM
   replace hx := hx352
   refine wl_sq ?_
   refine wc_cond rfl (fun hc361 => ?_) (fun hc361 => ?_)
   ·
    replace hx := xif_t hc361 hx
    refine wc_sr ?_
    refine was rfl rfl ?_
    refine was rfl rfl ?_
    refine wl_sq ?_
    refine wc_ret ?_
    refine sq_ret ?_
    obtain rfl := Option.some.inj hx
    have hM := hM.nil0 (T := DMark) 3 fDMark
    refine fin_ret [nS.v, (.bool false)] ⟨rfl, rfl, trivial⟩ ?_
    replace hM := hM.t1
    have hM := hM.fewer rsN
    exact ⟨nS, rfl, hM.gives⟩
   ·
    replace hx := xif_f hc361 hx
    refine wc_skip ?_
    refine sq_n ?_
    refine wc_sr ?_
    refine wmv rfl rfl ?_
    refine was rfl rfl ?_
    refine was rfl rfl ?_
    refine wl_sq ?_
    refine wc_ret ?_
    obtain rfl := Option.some.inj hx
    refine fin_ret [s224.v, (.bool true)] ⟨rfl, rfl, trivial⟩ ?_
    replace hM := hM.p1
    replace hM := hM.t1
    have hM := hM.fewer rsN
    exact ⟨s224, rfl, hM.gives⟩

noncomputable def x_impl_MarksMove_b0 (o : List DPart) (_l : List DMark) (_k91 : Nat) (x193 : DMark) (out92 : List DMark) : Option (Lr (List DMark) (List DMark)) :=
  Option.bind (x_impl_Shift o (x193.from_) true) fun r157 => Option.bind (x_impl_Shift o (x193.to) false) fun r169 => xg (out92.length < 1099511627776) <| some (Lr.go (out92 ++ [(⟨x193.id, min r157.1 r169.1, r169.1⟩ : DMark)]))
noncomputable def x_impl_MarksMove_f0 (o : List DPart) (l : List DMark) (k91 : Nat) (s194 : List DMark) : Option (Lr (List DMark) (List DMark)) := x_impl_MarksMove_b0 o l k91 (el l k91) s194
noncomputable def x_impl_MarksMove (l : List DMark) (o : List DPart) : Option (List DMark × Bool) :=
  Option.bind (x_impl_OpOk o) fun r4 => Option.bind (bif !r4 then (some true) else (Option.bind (x_impl_OpFrom o) fun r25 => Option.bind (x_impl_MarksOk l r25) fun r29 => some (!r29))) fun c10 => bif c10 then (some ([], false)) else (Option.bind (eachN (x_impl_MarksMove_f0 o l) (fun (s194 : List DMark) => (s194 : List DMark)) l.length 0 []) fun (y195 : List DMark) => some (y195, true))
theorem ct_impl_MarksMove (w : World) (X S : Bs) (l : List DMark) (s_l : Sv) (o : List DPart) (s_o : Sv) (hS : ∀ b, S b → b < w.heap.size ∧ ¬ X b) (a_l_0 : (cSl 3 fDMark l).rd S w s_l.v) (a_o_0 : (cSl 3 fDPart o).rd S w s_o.v) (oL : Sep [] X w) {r : List DMark × Bool} (hx : x_impl_MarksMove l o = some r) :
  Ret Tryd.prog 10 [s_l.v, s_o.v] w (fun u w' => ∃ y : Sv, u = .tuple #[y.v, (.bool r.2)] ∧ Gives X S w [oC (cSl 3 fDMark r.1) y.v] [] w') := by
 unfold x_impl_MarksMove at hx
 refine enter Tryd.func10 rfl Tryd.ntmps10 (by kernel_rfl) rfl ?_
 have hM := St.enter oL hS
 have hM := hM.addE (r := rV s_l.v (cSl 3 fDMark l)) a_l_0
 have hM := hM.addE (r := rV s_o.v (cSl 3 fDPart o)) a_o_0
 refine wc_sr ?_
 refine was rfl rfl ?_
 refine was rfl rfl ?_
 refine wl_sq ?_
 refine wc_seq ?_
 refine wc_sr ?_
 refine wmv rfl rfl ?_
 obtain ⟨r204, h205, hx⟩ := bind_some' hx
 refine w_call rfl rfl (hM.callV fun X S oL hS hR hO => ct_impl_OpOk _ X S o s_o hS (hR _ (.head _)) oL h205) ?_
 rintro _ w206 ⟨rfl, hR207⟩
 have hM := hM.call hR207
 refine wv rfl (r_not rfl) ?_
 refine wmv rfl rfl ?_
 obtain ⟨c210, hx, hx223⟩ := bind_some' hx
 refine wl_mid 6 (fun _ : Unit => [(22, (.bool c210)), (0, s_l.v), (1, s_o.v)]) (fun _ w' => St ⟨w, X, S⟩ [] [rV s_o.v (cSl 3 fDPart o), rV s_l.v (cSl 3 fDMark l)] w') ?_ ?_
 ·
  rcases Bool.eq_false_or_eq_true (!r204) with hg211 | hg211
  ·
   replace hx := xif_t hg211 hx
   refine gs rfl (isB_no hg211) rfl ?_
   refine gs rfl (isB_no hg211) rfl ?_
   refine gs rfl (isB_no hg211) rfl ?_
   refine gs rfl (isB_no hg211) rfl ?_
   refine gs rfl (isB_no hg211) rfl ?_
   refine wv rfl (p_t rfl hg211 rfl) ?_
   obtain rfl := Option.some.inj hx
   exact mid_nil () ⟨rfl, rfl, rfl, trivial⟩ hM
  ·
   replace hx := xif_f hg211 hx
   refine gv rfl hg211 rfl (r_move rfl) ?_
   refine gv rfl hg211 rfl (r_move rfl) ?_
   obtain ⟨r226, h227, hx⟩ := bind_some' hx
   refine gc rfl hg211 rfl rfl (hM.callV fun X S oL hS hR hO => ct_impl_OpFrom _ X S o s_o hS (hR _ (.head _)) oL h227) ?_
   rintro _ w228 ⟨rfl, hR229⟩
   have hM := hM.call hR229
   obtain ⟨r230, h231, hx⟩ := bind_some' hx
   refine gc rfl hg211 rfl rfl (hM.callV fun X S oL hS hR hO => ct_impl_MarksOk _ X S l s_l r226 hS (hR _ (.tail _ (.head _))) oL h231) ?_
   rintro _ w232 ⟨rfl, hR233⟩
   have hM := hM.call hR233
   refine gv rfl hg211 rfl (r_not rfl) ?_
   refine wv rfl (p_f rfl hg211 rfl) ?_
   obtain rfl := Option.some.inj hx
   exact mid_nil () ⟨rfl, rfl, rfl, trivial⟩ hM
 rintro _ w235 hM
 replace hx := hx223
 refine wl_sq ?_
 refine wc_cond rfl (fun hc236 => ?_) (fun hc236 => ?_)
 ·
  replace hx := xif_t hc236 hx
  refine wc_sr ?_
  refine was rfl rfl ?_
  refine was rfl rfl ?_
  refine wl_sq ?_
  refine wc_ret ?_
  refine sq_ret ?_
  obtain rfl := Option.some.inj hx
  have hM := hM.nil0 (T := DMark) 3 fDMark
  refine fin_ret [nS.v, (.bool false)] ⟨rfl, rfl, trivial⟩ ?_
  replace hM := hM.t1
  have hM := hM.fewer rsN
  exact ⟨nS, rfl, hM.gives⟩
 ·
  replace hx := xif_f hc236 hx
  refine wc_skip ?_
  refine sq_n ?_
  refine wc_sr ?_
  refine was rfl rfl ?_
  refine wl_sq ?_
  refine wc_seq ?_
  refine wc_sr ?_
  refine wmv rfl rfl ?_
  refine wv rfl (r_lenC Tryd.underlying33 rfl (hM.seeR (.tail _ (.head _)))) ?_
  refine wmv rfl rfl ?_
  refine wl_sq ?_
  refine wc_block ?_
  obtain ⟨y244, hx, hx245⟩ := bind_some' hx
  have hM := hM.nil0 (T := DMark) 3 fDMark
  have hl253 := Cs.le (hM.seeR (.tail _ (.head _)))
  refine wc_loop (un fun (m250 : Nat) => un fun (k251 : Nat) => un fun (out247 : List DMark) => fun (s249 : Sv) => [(1, s_o.v), (6, s249.v), (23, s_l.v), (24, (.int .i64 (l.length : Int))), (25, (.int .i64 (k251 : Int)))]) (un fun (m250 : Nat) => un fun (k251 : Nat) => un fun (out247 : List DMark) => fun (s249 : Sv) w' => St ⟨w, X, S⟩ [oC (cSl 3 fDMark out247) s249.v] [rV s_o.v (cSl 3 fDPart o), rV s_l.v (cSl 3 fDMark l)] w' ∧ eachN _ _ m250 k251 out247 = some y244 ∧ k251 + m250 = l.length) (fun p => p.1) (l.length, 0, [], nS) ⟨rfl, rfl, rfl, rfl, rfl, trivial⟩ ⟨hM, hx, Nat.zero_add _⟩ ?_
  rintro ⟨m250, k251, out247, s249⟩ w254 ⟨hM, hx, hk252⟩
  refine wc_sr ?_
  refine wv rfl (r_lss rfl rfl) ?_
  refine wl_sq ?_
  refine wc_seq ?_
  refine wc_cond rfl (fun hc256 => ?_) (fun hc256 => ?_)
  ·
   replace hc256 := of_decide_eq_true hc256
   obtain ⟨m257, z258, rfl, hk252, hx, hx259⟩ := eachN_step hx hk252 hc256
   unfold x_impl_MarksMove_f0 x_impl_MarksMove_b0 at hx
   try dsimp only at hx
   refine wc_skip ?_
   refine sq_n ?_
   refine wc_seq ?_
   refine wc_block ?_
   refine wc_sr ?_
   have hi261 : k251 < l.length := by omega
   refine wv rfl (r_ixC Tryd.underlying33 sz25 rfl rfl (hM.seeR (.tail _ (.head _))) ⟨by omega, hc256⟩) ?_
   refine wv rfl (r_ldC (o := k251 * 3) Tryd.underlying25 sz25 rfl (us := [(.int .i64 ((el l k251).id)), (.int .i64 ((el l k251).from_)), (.int .i64 ((el l k251).to))]) rfl (hM.seeR (.tail _ (.head _))) hi261 ⟨(Cs.get (i := k251) (j := 0) (hM.seeR (.tail _ (.head _))) (fun _ => rfl) hi261 rfl), (Cs.get (i := k251) (j := 1) (hM.seeR (.tail _ (.head _))) (fun _ => rfl) hi261 rfl), (Cs.get (i := k251) (j := 2) (hM.seeR (.tail _ (.head _))) (fun _ => rfl) hi261 rfl), trivial⟩) ?_
   refine w_ex rfl (x_alloc sz25 hM ?_); intro b264 w263 hR265 hM
   dsimp only [Value.cells] at hM
   refine w_exu (x_stB #[(.int .i64 ((el l k251).id)), (.int .i64 ((el l k251).from_)), (.int .i64 ((el l k251).to))] sz25 rfl rfl rfl rfl rfl rfl hM ?_); intro w267 hM
   refine wl_sq ?_
   refine wc_sr ?_
   refine wmv rfl rfl ?_
   refine wv rfl (r_fld Tryd.underlying25 rfl rfl sz3 rfl) ?_
   refine wv rfl (r_ldB Tryd.underlying3 rfl rfl hM (.head _) rfl) ?_
   obtain ⟨r272, h273, hx⟩ := bind_some' hx
   refine w_call rfl rfl (hM.callV fun X S oL hS hR hO => ct_impl_Shift _ X S o s_o ((el l k251).from_) true hS (hR _ (.head _)) oL h273) ?_
   rintro _ w274 ⟨rfl, hR275⟩
   have hM := hM.call hR275
   refine wmv rfl rfl ?_
   refine wv rfl (r_extract rfl rfl) ?_
   refine wv rfl (r_extract rfl rfl) ?_
   refine was rfl rfl ?_
   refine was rfl rfl ?_
   refine wl_sq ?_
   refine wc_sr ?_
   refine wmv rfl rfl ?_
   refine wv rfl (r_fld Tryd.underlying25 rfl rfl sz3 rfl) ?_
   refine wv rfl (r_ldB Tryd.underlying3 rfl rfl hM (.head _) rfl) ?_
   obtain ⟨r284, h285, hx⟩ := bind_some' hx
   refine w_call rfl rfl (hM.callV fun X S oL hS hR hO => ct_impl_Shift _ X S o s_o ((el l k251).to) false hS (hR _ (.head _)) oL h285) ?_
   rintro _ w286 ⟨rfl, hR287⟩
   have hM := hM.call hR287
   refine wmv rfl rfl ?_
   refine wv rfl (r_extract rfl rfl) ?_
   refine wv rfl (r_extract rfl rfl) ?_
   refine was rfl rfl ?_
   refine was rfl rfl ?_
   refine wl_sq ?_
   refine wc_region ?_
   refine wmv rfl rfl ?_
   refine wv rfl (r_fld Tryd.underlying25 rfl rfl sz3 rfl) ?_
   refine wv rfl (r_ldB Tryd.underlying3 rfl rfl hM (.head _) rfl) ?_
   refine wmv rfl rfl ?_
   refine wmv rfl rfl ?_
   refine wv rfl (r_min Tryd.underlying3 rfl rfl) ?_
   refine wmv rfl rfl ?_
   refine wv rfl (r_build (cells := #[(.int .i64 ((el l k251).id)), (.int .i64 (min r272.1 r284.1)), (.int .i64 r284.1)]) rfl (by kernel_rfl)) ?_
   replace hM := hM.p1
   obtain ⟨hg304, hx⟩ := xg_some hx
   refine w_push (f := fDMark) (⟨(el l k251).id, min r272.1 r284.1, r284.1⟩ : DMark) rfl rfl Tryd.underlying33 sz25 rfl rfl rfl rfl (fun _ => rfl) hM (fun _ => zP (pV _ rfl) (zP (pV _ rfl) (zP (pV _ rfl) zN))) rfl hg304 rfl ?_; intro u302 s303 w301 hM
   refine was rfl rfl ?_
   refine wl_nil ?_
   refine bk_n ?_
   refine sq_n ?_
   refine wc_region ?_
   refine wv rfl (r_add rfl rfl ⟨by omega, by omega⟩) ?_
   refine wmv rfl rfl ?_
   refine wl_nil ?_
   obtain rfl := Option.some.inj hx
   replace hM := hM.t1
   exact lp_end (m257, k251 + 1, out247 ++ [(⟨(el l k251).id, min r272.1 r284.1, r284.1⟩ : DMark)], s303) (Nat.lt_succ_self _) ⟨rfl, rfl, rfl, rfl, rfl, trivial⟩ ⟨hM, hx259, hk252⟩
  ·
   replace hc256 := of_decide_eq_false hc256
   obtain rfl := eachN_end hx hk252 hc256
   refine wc_exit ?_
   refine sq_exit ?_
   refine lp1_exit ?_
   replace hx := hx245
   try dsimp only [Sum.elim_inl, Sum.elim_inr] at hx
   refine bk_here ?_
   refine sq_n ?_
   refine wc_sr ?_
   refine wmv rfl rfl ?_
   refine was rfl rfl ?_
   refine was rfl rfl ?_
   refine wl_sq ?_
   refine wc_ret ?_
   obtain rfl := Option.some.inj hx
   refine fin_ret [s249.v, (.bool true)] ⟨rfl, rfl, trivial⟩ ?_
   replace hM := hM.t1
   have hM := hM.fewer rsN
   exact ⟨s249, rfl, hM.gives⟩

noncomputable def x_impl_MarksAt_b0 (at_ : Int) (_l : List DMark) (_k45 : Nat) (x123 : DMark) (out46 : List Int) : Option (Lr (List Int) (List Int)) :=
  Option.bind (bif decide ((x123.from_) ≤ at_) then (some (decide (at_ < (x123.to)))) else (some false)) fun c101 => bif c101 then (xg (out46.length < 1099511627776) <| some (Lr.go (out46 ++ [x123.id]))) else (some (Lr.go out46))
noncomputable def x_impl_MarksAt_f0 (at_ : Int) (l : List DMark) (k45 : Nat) (s124 : List Int) : Option (Lr (List Int) (List Int)) := x_impl_MarksAt_b0 at_ l k45 (el l k45) s124
noncomputable def x_impl_MarksAt (l : List DMark) (at_ : Int) : Option (List Int) :=
  Option.bind (eachN (x_impl_MarksAt_f0 at_ l) (fun (s124 : List Int) => (s124 : List Int)) l.length 0 []) fun (y125 : List Int) => some y125
theorem ct_impl_MarksAt (w : World) (X S : Bs) (l : List DMark) (s_l : Sv) (at_ : Int) (hS : ∀ b, S b → b < w.heap.size ∧ ¬ X b) (a_l_0 : (cSl 3 fDMark l).rd S w s_l.v) (oL : Sep [] X w) {r : List Int} (hx : x_impl_MarksAt l at_ = some r) :
  Ret Tryd.prog 17 [s_l.v, (.int .i64 at_)] w (fun u w' => ∃ y : Sv, u = y.v ∧ Gives X S w [oC (cSl 1 fI r) y.v] [] w') := by
 unfold x_impl_MarksAt at hx
 refine enter Tryd.func17 rfl Tryd.ntmps17 (by kernel_rfl) rfl ?_
 have hM := St.enter oL hS
 have hM := hM.addE (r := rV s_l.v (cSl 3 fDMark l)) a_l_0
 refine wc_sr ?_
 refine was rfl rfl ?_
 refine wl_sq ?_
 refine wc_sr ?_
 refine was rfl rfl ?_
 refine wl_sq ?_
 refine wc_seq ?_
 refine wc_sr ?_
 refine wmv rfl rfl ?_
 refine wv rfl (r_lenC Tryd.underlying33 rfl (hM.seeR (.head _))) ?_
 refine wmv rfl rfl ?_
 refine wl_sq ?_
 refine wc_block ?_
 obtain ⟨y135, hx, hx136⟩ := bind_some' hx
 have hM := hM.nil0 (T := Int) 1 fI
 have hl144 := Cs.le (hM.seeR (.head _))
 refine wc_loop (un fun (m141 : Nat) => un fun (k142 : Nat) => un fun (out138 : List Int) => fun (s140 : Sv) => [(1, (.int .i64 at_)), (5, s140.v), (8, s_l.v), (9, (.int .i64 (l.length : Int))), (10, (.int .i64 (k142 : Int)))]) (un fun (m141 : Nat) => un fun (k142 : Nat) => un fun (out138 : List Int) => fun (s140 : Sv) w' => St ⟨w, X, S⟩ [oC (cSl 1 fI out138) s140.v] [rV s_l.v (cSl 3 fDMark l)] w' ∧ eachN _ _ m141 k142 out138 = some y135 ∧ k142 + m141 = l.length) (fun p => p.1) (l.length, 0, [], nS) ⟨rfl, rfl, rfl, rfl, rfl, trivial⟩ ⟨hM, hx, Nat.zero_add _⟩ ?_
 rintro ⟨m141, k142, out138, s140⟩ w145 ⟨hM, hx, hk143⟩
 refine wc_sr ?_
 refine wv rfl (r_lss rfl rfl) ?_
 refine wl_sq ?_
 refine wc_seq ?_
 refine wc_cond rfl (fun hc147 => ?_) (fun hc147 => ?_)
 ·
  replace hc147 := of_decide_eq_true hc147
  obtain ⟨m148, z149, rfl, hk143, hx, hx150⟩ := eachN_step hx hk143 hc147
  unfold x_impl_MarksAt_f0 x_impl_MarksAt_b0 at hx
  try dsimp only at hx
  refine wc_skip ?_
  refine sq_n ?_
  refine wc_seq ?_
  refine wc_block ?_
  refine wc_sr ?_
  have hi152 : k142 < l.length := by omega
  refine wv rfl (r_ixC Tryd.underlying33 sz25 rfl rfl (hM.seeR (.head _)) ⟨by omega, hc147⟩) ?_
  refine wv rfl (r_ldC (o := k142 * 3) Tryd.underlying25 sz25 rfl (us := [(.int .i64 ((el l k142).id)), (.int .i64 ((el l k142).from_)), (.int .i64 ((el l k142).to))]) rfl (hM.seeR (.head _)) hi152 ⟨(Cs.get (i := k142) (j := 0) (hM.seeR (.head _)) (fun _ => rfl) hi152 rfl), (Cs.get (i := k142) (j := 1) (hM.seeR (.head _)) (fun _ => rfl) hi152 rfl), (Cs.get (i := k142) (j := 2) (hM.seeR (.head _)) (fun _ => rfl) hi152 rfl), trivial⟩) ?_
  refine w_ex rfl (x_alloc sz25 hM ?_); intro b155 w154 hR156 hM
  dsimp only [Value.cells] at hM
  refine w_exu (x_stB #[(.int .i64 ((el l k142).id)), (.int .i64 ((el l k142).from_)), (.int .i64 ((el l k142).to))] sz25 rfl rfl rfl rfl rfl rfl hM ?_); intro w158 hM
  refine wl_sq ?_
  refine wc_sr ?_
  refine wv rfl (r_fld Tryd.underlying25 rfl rfl sz3 rfl) ?_
  refine wv rfl (r_ldB Tryd.underlying3 rfl rfl hM (.head _) rfl) ?_
  refine wmv rfl rfl ?_
  refine wv rfl (r_leq rfl rfl) ?_
  refine wmv rfl rfl ?_
  obtain ⟨c165, hx, hx171⟩ := bind_some' hx
  refine wl_mid 5 (fun _ : Unit => [(23, (.bool c165)), (1, (.int .i64 at_)), (5, s140.v), (7, (.pointer (some ⟨b155, 0, none⟩))), (8, s_l.v), (9, (.int .i64 (l.length : Int))), (10, (.int .i64 (k142 : Int)))]) (fun _ w' => St ⟨w, X, S⟩ [oBox b155 #[(.int .i64 ((el l k142).id)), (.int .i64 ((el l k142).from_)), (.int .i64 ((el l k142).to))] 25, oC (cSl 1 fI out138) s140.v] [rV s_l.v (cSl 3 fDMark l)] w') ?_ ?_
  ·
   rcases Bool.eq_false_or_eq_true (decide (((el l k142).from_) ≤ at_)) with hg166 | hg166
   ·
    replace hx := xif_t hg166 hx
    refine gv rfl hg166 rfl (r_move rfl) ?_
    refine gv rfl hg166 rfl (r_fld Tryd.underlying25 rfl rfl sz3 rfl) ?_
    refine gv rfl hg166 rfl (r_ldB Tryd.underlying3 rfl rfl hM (.head _) rfl) ?_
    refine gv rfl hg166 rfl (r_lss rfl rfl) ?_
    refine wv rfl (p_t rfl hg166 rfl) ?_
    obtain rfl := Option.some.inj hx
    exact mid_nil () ⟨rfl, rfl, rfl, rfl, rfl, rfl, rfl, trivial⟩ hM
   ·
    replace hx := xif_f hg166 hx
    refine gs rfl (isB_no hg166) rfl ?_
    refine gs rfl (isB_no hg166) rfl ?_
    refine gs rfl (isB_no hg166) rfl ?_
    refine gs rfl (isB_no hg166) rfl ?_
    refine wv rfl (p_f rfl hg166 rfl) ?_
    obtain rfl := Option.some.inj hx
    exact mid_nil () ⟨rfl, rfl, rfl, rfl, rfl, rfl, rfl, trivial⟩ hM
  rintro _ w176 hM
  replace hx := hx171
  refine wl_sq ?_
  refine wc_cond rfl (fun hc177 => ?_) (fun hc177 => ?_)
  ·
   replace hx := xif_t hc177 hx
   refine wc_region ?_
   refine wmv rfl rfl ?_
   refine wv rfl (r_fld Tryd.underlying25 rfl rfl sz3 rfl) ?_
   refine wv rfl (r_ldB Tryd.underlying3 rfl rfl hM (.head _) rfl) ?_
   replace hM := hM.p1
   obtain ⟨hg184, hx⟩ := xg_some hx
   refine w_push (f := fI) ((el l k142).id) rfl rfl Tryd.underlying29 sz3 rfl rfl rfl rfl (fun _ => rfl) hM (fun _ => zP (pV _ rfl) zN) rfl hg184 rfl ?_; intro u182 s183 w181 hM
   refine was rfl rfl ?_
   refine wl_nil ?_
   refine bk_n ?_
   refine sq_n ?_
   refine wc_region ?_
   refine wv rfl (r_add rfl rfl ⟨by omega, by omega⟩) ?_
   refine wmv rfl rfl ?_
   refine wl_nil ?_
   obtain rfl := Option.some.inj hx
   replace hM := hM.t1
   exact lp_end (m148, k142 + 1, out138 ++ [(el l k142).id], s183) (Nat.lt_succ_self _) ⟨rfl, rfl, rfl, rfl, rfl, trivial⟩ ⟨hM, hx150, hk143⟩
  ·
   replace hx := xif_f hc177 hx
   refine wc_skip ?_
   refine bk_n ?_
   refine sq_n ?_
   refine wc_region ?_
   refine wv rfl (r_add rfl rfl ⟨by omega, by omega⟩) ?_
   refine wmv rfl rfl ?_
   refine wl_nil ?_
   obtain rfl := Option.some.inj hx
   replace hM := hM.p1
   replace hM := hM.t1
   exact lp_end (m148, k142 + 1, out138, s140) (Nat.lt_succ_self _) ⟨rfl, rfl, rfl, rfl, rfl, trivial⟩ ⟨hM, hx150, hk143⟩
 ·
  replace hc147 := of_decide_eq_false hc147
  obtain rfl := eachN_end hx hk143 hc147
  refine wc_exit ?_
  refine sq_exit ?_
  refine lp1_exit ?_
  replace hx := hx136
  try dsimp only [Sum.elim_inl, Sum.elim_inr] at hx
  refine bk_here ?_
  refine sq_n ?_
  refine wc_sr ?_
  refine wmv rfl rfl ?_
  refine was rfl rfl ?_
  refine wl_sq ?_
  refine wc_ret ?_
  obtain rfl := Option.some.inj hx
  refine fin_ret [s140.v] ⟨rfl, trivial⟩ ?_
  replace hM := hM.t1
  have hM := hM.fewer rsN
  exact ⟨s140, rfl, hM.gives⟩

noncomputable def x_impl_MarkedAll_b0 (n : Int) (l : List DMark) (count12 : Int) (at13 : Int) : Option (Lr (Int × Int) Int) :=
  bif decide (at13 < n) then (Option.bind (x_impl_MarksAt l at13) fun r43 => bif decide ((0 : Int) < (r43.length : Int)) then (xg (inI (count12 + 1)) <| xg (inI (at13 + 1)) <| some (Lr.go (count12 + 1, at13 + 1))) else (xg (inI (at13 + 1)) <| some (Lr.go (count12, at13 + 1)))) else (some (Lr.out count12))
noncomputable def x_impl_MarkedAll_f0 (n : Int) (l : List DMark) (s62 : Int × Int) : Option (Lr (Int × Int) Int) := x_impl_MarkedAll_b0 n l s62.1 s62.2
noncomputable def x_impl_MarkedAll (l : List DMark) (n : Int) : Option Int :=
  Option.bind (x_impl_MarksOk l n) fun r4 => bif !r4 then (some 0) else (Option.bind (iter (x_impl_MarkedAll_f0 n l) (0, 0)) fun (y63 : Int) => some y63)
theorem ct_impl_MarkedAll (w : World) (X S : Bs) (l : List DMark) (s_l : Sv) (n : Int) (hS : ∀ b, S b → b < w.heap.size ∧ ¬ X b) (a_l_0 : (cSl 3 fDMark l).rd S w s_l.v) (oL : Sep [] X w) {r : Int} (hx : x_impl_MarkedAll l n = some r) :
  Ret Tryd.prog 15 [s_l.v, (.int .i64 n)] w (fun u w' => ∃ _ : Unit, u = (.int .i64 r) ∧ Gives X S w [] [] w') := by
 unfold x_impl_MarkedAll at hx
 refine enter Tryd.func15 rfl Tryd.ntmps15 (by kernel_rfl) rfl ?_
 have hM := St.enter oL hS
 have hM := hM.addE (r := rV s_l.v (cSl 3 fDMark l)) a_l_0
 refine wc_sr ?_
 refine was rfl rfl ?_
 refine wl_sq ?_
 refine wc_seq ?_
 refine wc_sr ?_
 refine wmv rfl rfl ?_
 refine wmv rfl rfl ?_
 obtain ⟨r69, h70, hx⟩ := bind_some' hx
 refine w_call rfl rfl (hM.callV fun X S oL hS hR hO => ct_impl_MarksOk _ X S l s_l n hS (hR _ (.head _)) oL h70) ?_
 rintro _ w71 ⟨rfl, hR72⟩
 have hM := hM.call hR72
 refine wv rfl (r_not rfl) ?_
 refine wl_sq ?_
 refine wc_cond rfl (fun hc74 => ?_) (fun hc74 => ?_)
 ·
  replace hx := xif_t hc74 hx
  refine wc_sr ?_
  refine was rfl rfl ?_
  refine wl_sq ?_
  refine wc_ret ?_
  refine sq_ret ?_
  obtain rfl := Option.some.inj hx
  refine fin_ret [(.int .i64 0)] ⟨rfl, trivial⟩ ?_
  replace hM := hM.t0
  have hM := hM.fewer rsN
  exact ⟨(), rfl, hM.gives⟩
 ·
  replace hx := xif_f hc74 hx
  refine wc_skip ?_
  refine sq_n ?_
  refine wc_sr ?_
  refine was rfl rfl ?_
  refine wl_sq ?_
  refine wc_seq ?_
  refine wc_sr ?_
  refine was rfl rfl ?_
  refine wl_sq ?_
  refine wc_block ?_
  obtain ⟨y78, hx, hx79⟩ := bind_some' hx
  obtain ⟨m84, hx⟩ := iter_run hx
  refine wc_loop (un fun (m82 : Nat) => un fun (count80 : Int) => fun (at81 : Int) => [(0, s_l.v), (1, (.int .i64 n)), (5, (.int .i64 count80)), (6, (.int .i64 at81))]) (un fun (m82 : Nat) => un fun (count80 : Int) => fun (at81 : Int) w' => St ⟨w, X, S⟩ [] [rV s_l.v (cSl 3 fDMark l)] w' ∧ iterN _ m82 (count80, at81) = some y78) (fun p => p.1) (m84, 0, 0) ⟨rfl, rfl, rfl, rfl, trivial⟩ ⟨hM, hx⟩ ?_
  rintro ⟨m82, count80, at81⟩ w85 ⟨hM, hx⟩
  obtain ⟨m86, z87, rfl, hx, hx88⟩ := iterN_step hx
  unfold x_impl_MarkedAll_f0 x_impl_MarkedAll_b0 at hx
  try dsimp only at hx
  refine wc_seq ?_
  refine wc_sr ?_
  refine wmv rfl rfl ?_
  refine wmv rfl rfl ?_
  refine wv rfl (r_lss rfl rfl) ?_
  refine wl_sq ?_
  refine wc_cond rfl (fun hc92 => ?_) (fun hc92 => ?_)
  ·
   replace hx := xif_t hc92 hx
   refine wc_skip ?_
   refine sq_n ?_
   refine wc_seq ?_
   refine wc_block ?_
   refine wc_sr ?_
   refine wmv rfl rfl ?_
   refine wmv rfl rfl ?_
   obtain ⟨r95, h96, hx⟩ := bind_some' hx
   refine w_call rfl rfl (hM.callO (l := []) fun X S oL hS hR hO => ct_impl_MarksAt _ X S l s_l at81 hS (hR _ (.head _)) oL h96) ?_
   rintro _ w97 ⟨s98, rfl, hM⟩
   dsimp only [List.cons_append, List.nil_append] at hM
   refine wv rfl (r_lenC Tryd.underlying29 rfl (hM.seeO (.head _))) ?_
   refine wv rfl (r_gtr rfl rfl) ?_
   refine wl_sq ?_
   refine wc_cond rfl (fun hc102 => ?_) (fun hc102 => ?_)
   ·
    replace hx := xif_t hc102 hx
    refine wc_region ?_
    refine wmv rfl rfl ?_
    obtain ⟨hg105, hx⟩ := xg_some hx
    refine wv rfl (r_add rfl rfl hg105) ?_
    refine was rfl rfl ?_
    refine wl_nil ?_
    refine bk_n ?_
    refine sq_n ?_
    refine wc_region ?_
    refine wmv rfl rfl ?_
    obtain ⟨hg109, hx⟩ := xg_some hx
    refine wv rfl (r_add rfl rfl hg109) ?_
    refine was rfl rfl ?_
    refine wl_nil ?_
    obtain rfl := Option.some.inj hx
    replace hM := hM.t0
    exact lp_end (m86, count80 + 1, at81 + 1) (Nat.lt_succ_self _) ⟨rfl, rfl, rfl, rfl, trivial⟩ ⟨hM, hx88⟩
   ·
    replace hx := xif_f hc102 hx
    refine wc_skip ?_
    refine bk_n ?_
    refine sq_n ?_
    refine wc_region ?_
    refine wmv rfl rfl ?_
    obtain ⟨hg113, hx⟩ := xg_some hx
    refine wv rfl (r_add rfl rfl hg113) ?_
    refine was rfl rfl ?_
    refine wl_nil ?_
    obtain rfl := Option.some.inj hx
    replace hM := hM.t0
    exact lp_end (m86, count80, at81 + 1) (Nat.lt_succ_self _) ⟨rfl, rfl, rfl, rfl, trivial⟩ ⟨hM, hx88⟩
  ·
   replace hx := xif_f hc92 hx
   refine wc_exit ?_
   refine sq_exit ?_
   refine lp1_exit ?_
   obtain rfl := Option.some.inj hx
   obtain rfl := Option.some.inj hx88
   replace hx := hx79
   try dsimp only [Sum.elim_inl, Sum.elim_inr] at hx
   refine bk_here ?_
   refine sq_n ?_
   refine wc_sr ?_
   refine wmv rfl rfl ?_
   refine was rfl rfl ?_
   refine wl_sq ?_
   refine wc_ret ?_
   obtain rfl := Option.some.inj hx
   refine fin_ret [(.int .i64 count80)] ⟨rfl, trivial⟩ ?_
   replace hM := hM.t0
   have hM := hM.fewer rsN
   exact ⟨(), rfl, hM.gives⟩

noncomputable def x_impl_Keeping (n : Int) : Option (List DPart) :=
  Option.bind (x_impl_within n 1 200) fun r3 => bif !r3 then (some []) else (some [(⟨1, n, []⟩ : DPart)])
theorem ct_impl_Keeping (w : World) (X S : Bs) (n : Int) (hS : ∀ b, S b → b < w.heap.size ∧ ¬ X b)  (oL : Sep [] X w) {r : List DPart} (hx : x_impl_Keeping n = some r) :
  Ret Tryd.prog 11 [(.int .i64 n)] w (fun u w' => ∃ y : Sv, u = y.v ∧ Gives X S w [oC (cSl 3 fDPart r) y.v] [] w') := by
 unfold x_impl_Keeping at hx
 refine enter Tryd.func11 rfl Tryd.ntmps11 (by kernel_rfl) rfl ?_
 have hM := St.enter oL hS
 refine wc_sr ?_
 refine was rfl rfl ?_
 refine wl_sq ?_
 refine wc_seq ?_
 refine wc_sr ?_
 refine wmv rfl rfl ?_
 obtain ⟨r18, h19, hx⟩ := bind_some' hx
 refine w_call rfl rfl (hM.callV fun X S oL hS hR hO => ct_impl_within _ X S n (1 : Int) (200 : Int) hS  oL h19) ?_
 rintro _ w20 ⟨rfl, hR21⟩
 have hM := hM.call hR21
 refine wv rfl (r_not rfl) ?_
 refine wl_sq ?_
 refine wc_cond rfl (fun hc23 => ?_) (fun hc23 => ?_)
 ·
  replace hx := xif_t hc23 hx
  refine wc_sr ?_
  refine was rfl rfl ?_
  refine wl_sq ?_
  refine wc_ret ?_
  refine sq_ret ?_
  obtain rfl := Option.some.inj hx
  have hM := hM.nil0 (T := DPart) 3 fDPart
  refine fin_ret [nS.v] ⟨rfl, trivial⟩ ?_
  replace hM := hM.t1
  have hM := hM.fewer rsN
  exact ⟨nS, rfl, hM.gives⟩
 ·
  replace hx := xif_f hc23 hx
  refine wc_skip ?_
  refine sq_n ?_
  refine wc_sr ?_
  refine wmv rfl rfl ?_
  refine wv rfl (r_build (cells := #[(.int .i64 1), (.int .i64 n), (.slice none 0 0)]) rfl (by kernel_rfl)) ?_
  refine w_ex rfl (x_lit (f := fDPart) (own := []) [(⟨1, n, []⟩ : DPart)] [(.int .i64 1), (.int .i64 n), (.slice none 0 0)] 1 Tryd.underlying30 sz58 (fun _ => rfl) rfl rfl rfl rfl rfl (by kernel_rfl) (fun _ => zP (pV _ rfl) (zP (pV _ rfl) (zP (pN _ _) zN))) hM ?_); intro s29 w28 hR30 hM
  refine was rfl rfl ?_
  refine wl_sq ?_
  refine wc_ret ?_
  obtain rfl := Option.some.inj hx
  refine fin_ret [s29.v] ⟨rfl, trivial⟩ ?_
  replace hM := hM.t1
  have hM := hM.fewer rsN
  exact ⟨s29, rfl, hM.gives⟩

end Go.Proofs.YtdfjkipdmeomdaaDoor
