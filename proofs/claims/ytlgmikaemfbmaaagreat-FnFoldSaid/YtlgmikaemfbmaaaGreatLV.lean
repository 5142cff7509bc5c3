/- Walks of functions of this program (printed by a program of ours, by the rules of the layer). No condition. -/
import Derived.Test.YtlgmikaemfbmaaaGreatGW
import Derived.Test.YtlgmikaemfbmaaaGreatNs
import Derived.Test.YtlgmikaemfbmaaaGreatNu
namespace Go.Proofs.YtlgmikaemfbmaaaGreat
open Go.RowKit

noncomputable def x_impl_Squash_b0 (_r5 : List DEntry) (_k56 : Nat) (x300 : DEntry) (out57 : List DEntry) : Option (Lr (List DEntry) (Sum (List DEntry) Unit)) :=
  Option.bind (x_impl_EntryOk x300) fun r202 => bif !r202 then (some (Lr.out (Sum.inr (())))) else (Option.bind (bif decide ((out57.length : Int) = 0) then (some true) else (xg (inI ((out57.length : Int) - 1)) <| xg (0 ≤ ((out57.length : Int) - 1) ∧ ((out57.length : Int) - 1) < (out57.length : Int)) <| some (!decide (((el out57 (((out57.length : Int) - 1).toNat)).client) = (x300.client))))) fun c215 => bif c215 then (xg (out57.length < 1099511627776) <| some (Lr.go (out57 ++ [x300]))) else (xg (inI ((out57.length : Int) - 1)) <| xg (0 ≤ ((out57.length : Int) - 1) ∧ ((out57.length : Int) - 1) < (out57.length : Int)) <| Option.bind (x_impl_Compose ((el out57 (((out57.length : Int) - 1).toNat)).o) (x300.o)) fun r265 => bif !r265.2 then (some (Lr.out (Sum.inr (())))) else (xg (inI ((out57.length : Int) - 1)) <| xg (0 ≤ ((out57.length : Int) - 1) ∧ ((out57.length : Int) - 1) < (out57.length : Int)) <| some (Lr.go (out57.set (((out57.length : Int) - 1).toNat) (⟨x300.client, x300.seq, r265.1⟩ : DEntry))))))
noncomputable def x_impl_Squash_f0 (r5 : List DEntry) (k56 : Nat) (s301 : List DEntry) : Option (Lr (List DEntry) (Sum (List DEntry) Unit)) := x_impl_Squash_b0 r5 k56 (el r5 k56) s301
noncomputable def x_impl_Squash (l : List DEntry) : Option (List DEntry × Bool) :=
  Option.bind (x_impl_copyEntries l) fun r5 => Option.bind (eachN (x_impl_Squash_f0 r5) (fun (s301 : List DEntry) => (Sum.inl s301 : Sum (List DEntry) Unit)) r5.length 0 []) fun (y302 : Sum (List DEntry) Unit) => Sum.elim (fun y303 => some (y303, true)) (fun _y304 => some ([], false)) y302
theorem ct_impl_Squash (w : World) (X S : Bs) (l : List DEntry) (s_l : Sv) (hS : ∀ b, S b → b < w.heap.size ∧ ¬ X b) (a_l_0 : (cSl 3 fDEntry l).rd S w s_l.v) (oL : Sep [] X w) {r : List DEntry × Bool} (hx : x_impl_Squash l = some r) :
  Ret Tryz.prog 11 [s_l.v] w (fun u w' => ∃ y : Sv, u = .tuple #[y.v, (.bool r.2)] ∧ Gives X S w [oC (cSl 3 fDEntry r.1) y.v] [] w') := by
 unfold x_impl_Squash at hx
 refine enter Tryz.func11 rfl Tryz.ntmps11 (by kernel_rfl) rfl ?_
 have hM := St.enter oL hS
 have hM := hM.addE (r := rV s_l.v (cSl 3 fDEntry l)) a_l_0
 refine wc_sr ?_
 refine was rfl rfl ?_
 refine was rfl rfl ?_
 refine wl_sq ?_
 refine wc_sr ?_
 refine was rfl rfl ?_
 refine wl_sq ?_
 refine wc_seq ?_
 refine wc_sr ?_
 refine wmv rfl rfl ?_
 obtain ⟨r314, h315, hx⟩ := bind_some' hx
 refine w_call rfl rfl (hM.callO (l := []) fun X S oL hS hR hO => ct_impl_copyEntries _ X S l s_l hS (hR _ (.head _)) oL h315) ?_
 rintro _ w316 ⟨s317, rfl, hM⟩
 dsimp only [List.cons_append, List.nil_append] at hM
 refine wv rfl (r_lenC Tryz.underlying24 rfl (hM.seeO (.head _))) ?_
 refine wmv rfl rfl ?_
 refine wl_sq ?_
 refine wc_block ?_
 obtain ⟨y321, hx, hx322⟩ := bind_some' hx
 replace hM := hM.toEat
 have hM := hM.nil0 (T := DEntry) 3 fDEntry
 replace hM := hM.p1
 have hM := hM.fewer rsN
 replace hM : St ⟨w, X, S⟩ [oEat 3 fDEntry r314 s317.v 0, oC (cSl 3 fDEntry ([] : List DEntry)) nS.v] [] _ := hM
 have hl330 := hM.eatLe (.head _)
 refine wc_loop (un fun (m327 : Nat) => un fun (k328 : Nat) => un fun (out324 : List DEntry) => fun (s326 : Sv) => [(4, s326.v), (11, s317.v), (12, (.int .i64 (r314.length : Int))), (13, (.int .i64 (k328 : Int)))]) (un fun (m327 : Nat) => un fun (k328 : Nat) => un fun (out324 : List DEntry) => fun (s326 : Sv) w' => St ⟨w, X, S⟩ [oEat 3 fDEntry r314 s317.v k328, oC (cSl 3 fDEntry out324) s326.v] [] w' ∧ eachN _ _ m327 k328 out324 = some y321 ∧ k328 + m327 = r314.length) (fun p => p.1) (r314.length, 0, [], nS) ⟨rfl, rfl, rfl, rfl, trivial⟩ ⟨hM, hx, Nat.zero_add _⟩ ?_
 rintro ⟨m327, k328, out324, s326⟩ w331 ⟨hM, hx, hk329⟩
 refine wc_sr ?_
 refine wv rfl (r_lss rfl rfl) ?_
 refine wl_sq ?_
 refine wc_seq ?_
 refine wc_cond rfl (fun hc333 => ?_) (fun hc333 => ?_)
 ·
  replace hc333 := of_decide_eq_true hc333
  obtain ⟨m334, z335, rfl, hk329, hx, hx336⟩ := eachN_step hx hk329 hc333
  unfold x_impl_Squash_f0 x_impl_Squash_b0 at hx
  try dsimp only at hx
  refine wc_skip ?_
  refine sq_n ?_
  refine wc_seq ?_
  refine wc_block ?_
  refine wc_sr ?_
  have hi338 : k328 < r314.length := by omega
  refine wv rfl (r_ixE Tryz.underlying24 sz70 rfl rfl (hM.eatP (.head _) hi338) ⟨by omega, hc333⟩) ?_
  obtain ⟨us340, hl341, hM, hC342⟩ := hM.bite (fun _ => rfl) hi338
  obtain ⟨u343, u344, u345, rfl⟩ := lst3 hl341
  have hu346 := hM.valV.1
  replace hM := hM.valV.2
  have hu347 := hM.valV.1
  replace hM := hM.valV.2
  obtain ⟨s349, hu348, hMs⟩ := hM.valS
  replace hM := hMs
  clear hMs
  subst hu346 hu347 hu348
  replace hM : St ⟨w, X, S⟩ [oC (cSl 3 fDPart ((el r314 k328).o)) s349.v, oEat 3 fDEntry r314 s317.v (k328 + 1), oC (cSl 3 fDEntry out324) s326.v] [] _ := hM
  refine wv rfl (r_ldE Tryz.underlying70 sz70 rfl (us := [(.int .i64 ((el r314 k328).client)), (.int .i64 ((el r314 k328).seq)), s349.v]) rfl (hM.eatP (.tail _ (.head _)) hi338) (hC342 _ (Rel.refl _))) ?_
  refine w_ex rfl (x_alloc sz70 hM ?_); intro b352 w351 hR353 hM
  dsimp only [Value.cells] at hM
  refine w_exu (x_stB #[(.int .i64 ((el r314 k328).client)), (.int .i64 ((el r314 k328).seq)), s349.v] sz70 rfl rfl rfl rfl rfl rfl hM ?_); intro w355 hM
  refine wl_sq ?_
  refine wc_seq ?_
  refine wc_sr ?_
  refine wv rfl (r_ldBS Tryz.underlying70 sz70 rfl (us := [(.int .i64 ((el r314 k328).client)), (.int .i64 ((el r314 k328).seq)), s349.v]) rfl hM (.head _) rfl) ?_
  obtain ⟨r358, h359, hx⟩ := bind_some' hx
  refine w_call rfl rfl (hM.callV fun X S oL hS hR hO => ct_impl_EntryOk _ X S (el r314 k328) s349 hS (seeA hO (.tail _ (.head _))) oL h359) ?_
  rintro _ w360 ⟨rfl, hR361⟩
  have hM := hM.call hR361
  refine wv rfl (r_not rfl) ?_
  refine wl_sq ?_
  refine wc_cond rfl (fun hc363 => ?_) (fun hc363 => ?_)
  ·
   replace hx := xif_t hc363 hx
   refine wc_sr ?_
   refine was rfl rfl ?_
   refine was rfl rfl ?_
   refine wl_sq ?_
   refine wc_ret ?_
   refine sq_ret ?_
   refine bk_ret ?_
   refine sq_ret ?_
   refine lp1_ret ?_
   obtain rfl := Option.some.inj hx
   obtain rfl := Option.some.inj hx336
   replace hx := hx322
   try dsimp only [Sum.elim_inl, Sum.elim_inr] at hx
   refine bk_ret ?_
   refine sq_ret ?_
   obtain rfl := Option.some.inj hx
   have hM := hM.nil0 (T := DEntry) 3 fDEntry
   refine fin_ret [nS.v, (.bool false)] ⟨rfl, rfl, trivial⟩ ?_
   replace hM := hM.t1
   have hM := hM.fewer rsN
   exact ⟨nS, rfl, hM.gives⟩
  ·
   replace hx := xif_f hc363 hx
   refine wc_skip ?_
   refine sq_n ?_
   refine wc_sr ?_
   refine wmv rfl rfl ?_
   refine wv rfl (r_lenC Tryz.underlying24 rfl (hM.seeO (.tail _ (.tail _ (.tail _ (.head _)))))) ?_
   refine was rfl rfl ?_
   refine wl_sq ?_
   refine wc_seq ?_
   refine wc_seq ?_
   refine wc_draw [(0, 0), (1, 0), (2, 0), (3, 0), (4, 0), (5, 0), (6, 0), (7, 0), (8, 0), (9, 0), (10, 0), (11, 0), (12, 0)] Tryz_mixed (by kernel_rfl) rfl (by kernel_rfl) rfl ?_
   refine omv rfl rfl ?_
   refine ov rfl (fun w' h' => r_eql rfl rfl) ?_
   refine omv rfl rfl ?_
   obtain ⟨c373, hx, hx387⟩ := bind_some' hx
   refine wo_mid 10 [(34, (.bool c373)), (4, s326.v), (6, (.pointer (some ⟨b352, 0, none⟩))), (7, (.int .i64 (out324.length : Int))), (11, s317.v), (12, (.int .i64 (r314.length : Int))), (13, (.int .i64 (k328 : Int)))] rfl ?_ ?_
   ·
    rcases Bool.eq_false_or_eq_true (decide ((out324.length : Int) = 0)) with hg374 | hg374
    ·
     replace hx := xif_t hg374 hx
     refine ogs rfl (isB_no hg374) rfl ?_
     refine ogs rfl (isB_no hg374) rfl ?_
     refine ogs rfl (isB_no hg374) rfl ?_
     refine ogs rfl (isB_no hg374) rfl ?_
     refine ogs rfl (isB_no hg374) rfl ?_
     refine ogs rfl (isB_no hg374) rfl ?_
     refine ogs rfl (isB_no hg374) rfl ?_
     refine ogs rfl (isB_no hg374) rfl ?_
     refine ogs rfl (isB_no hg374) rfl ?_
     refine ov rfl (fun w' h' => p_t rfl hg374 rfl) ?_
     obtain rfl := Option.some.inj hx
     exact mid_onil ⟨rfl, rfl, rfl, rfl, rfl, rfl, rfl, trivial⟩
    ·
     replace hx := xif_f hg374 hx
     refine ogv rfl hg374 rfl (fun w' h' => r_move rfl) ?_
     refine ogv rfl hg374 rfl (fun w' h' => r_move rfl) ?_
     obtain ⟨hg391, hx⟩ := xg_some hx
     refine ogv rfl hg374 rfl (fun w' h' => r_sub rfl rfl hg391) ?_
     obtain ⟨hg394, hx⟩ := xg_some hx
     have hi393 : (((out324.length : Int) - 1).toNat) < out324.length := by omega
     refine ogv rfl hg374 rfl (fun w' h' => r_ixC Tryz.underlying24 sz70 rfl rfl ((hM.call h').seeO (.tail _ (.tail _ (.tail _ (.head _))))) hg394) ?_
     refine ogv rfl hg374 rfl (fun w' h' => r_fldC (i := (((out324.length : Int) - 1).toNat)) Tryz.underlying70 rfl rfl sz3 rfl ((hM.call h').seeO (.tail _ (.tail _ (.tail _ (.head _))))) hi393) ?_
     refine ogv rfl hg374 rfl (fun w' h' => r_ld Tryz.underlying3 rfl rfl (Cs.get (i := (((out324.length : Int) - 1).toNat)) (j := 0) ((hM.call h').seeO (.tail _ (.tail _ (.tail _ (.head _))))) (fun _ => rfl) hi393 rfl)) ?_
     refine ogv rfl hg374 rfl (fun w' h' => r_fld Tryz.underlying70 rfl rfl sz3 rfl) ?_
     refine ogv rfl hg374 rfl (fun w' h' => r_ldB Tryz.underlying3 rfl rfl (hM.call h') (.head _) rfl) ?_
     refine ogv rfl hg374 rfl (fun w' h' => r_neq rfl rfl) ?_
     refine ov rfl (fun w' h' => p_f rfl hg374 rfl) ?_
     obtain rfl := Option.some.inj hx
     exact mid_onil ⟨rfl, rfl, rfl, rfl, rfl, rfl, rfl, trivial⟩
   replace hx := hx387
   refine o_nilM hM fun w400 hM => ?_
   refine sq_n ?_
   refine wc_cond rfl (fun hc402 => ?_) (fun hc402 => ?_)
   ·
    replace hx := xif_t hc402 hx
    refine wc_sr ?_
    refine wmv rfl rfl ?_
    refine wv rfl (r_ldBS Tryz.underlying70 sz70 rfl (us := [(.int .i64 ((el r314 k328).client)), (.int .i64 ((el r314 k328).seq)), s349.v]) rfl hM (.head _) rfl) ?_
    replace hM := hM.p1.p3
    obtain ⟨hg408, hx⟩ := xg_some hx
    refine w_push (f := fDEntry) (el r314 k328) rfl rfl Tryz.underlying24 sz70 rfl rfl rfl rfl (fun _ => rfl) hM (fun _ => zP (pV _ rfl) (zP (pV _ rfl) (zO zN))) rfl hg408 rfl ?_; intro u406 s407 w405 hM
    refine was rfl rfl ?_
    refine wl_sq ?_
    refine wc_exit ?_
    refine sq_exit ?_
    refine bk_here ?_
    refine sq_n ?_
    refine wc_region ?_
    refine wv rfl (r_add rfl rfl ⟨by omega, by omega⟩) ?_
    refine wmv rfl rfl ?_
    refine wl_nil ?_
    obtain rfl := Option.some.inj hx
    replace hM := hM.p2
    replace hM := hM.t2
    exact lp_end (m334, k328 + 1, out324 ++ [el r314 k328], s407) (Nat.lt_succ_self _) ⟨rfl, rfl, rfl, rfl, trivial⟩ ⟨hM, hx336, hk329⟩
   ·
    replace hx := xif_f hc402 hx
    refine wc_skip ?_
    refine sq_n ?_
    refine wc_seq ?_
    refine wc_draw [(0, 0), (1, 0), (2, 0), (3, 0), (4, 0), (5, 0), (6, 0), (7, 0), (8, 2), (9, 0), (10, 0), (11, 0), (12, 0), (13, 0)] Tryz_mixed (by kernel_rfl) rfl (by kernel_rfl) rfl ?_
    refine omv rfl rfl ?_
    refine omv rfl rfl ?_
    obtain ⟨hg415, hx⟩ := xg_some hx
    refine ov rfl (fun w' h' => r_sub rfl rfl hg415) ?_
    obtain ⟨hg418, hx⟩ := xg_some hx
    have hi417 : (((out324.length : Int) - 1).toNat) < out324.length := by omega
    refine ov rfl (fun w' h' => r_ixC Tryz.underlying24 sz70 rfl rfl ((hM.call h').seeO (.tail _ (.tail _ (.tail _ (.head _))))) hg418) ?_
    refine ov rfl (fun w' h' => r_fldC (i := (((out324.length : Int) - 1).toNat)) Tryz.underlying70 rfl rfl sz48 rfl ((hM.call h').seeO (.tail _ (.tail _ (.tail _ (.head _))))) hi417) ?_
    replace hM := hM.p3
    obtain ⟨s421, hM, hc422⟩ := hM.leafO (i := (((out324.length : Int) - 1).toNat)) (j := 2) (fun _ => rfl) hi417 rfl
    refine ov rfl (fun w' h' => r_ld Tryz.underlying48 rfl rfl (hc422 w' h')) ?_
    refine ov rfl (fun w' h' => r_fld Tryz.underlying70 rfl rfl sz48 rfl) ?_
    refine ov rfl (fun w' h' => r_ldB Tryz.underlying48 rfl rfl (hM.call h') (.tail _ (.head _)) rfl) ?_
    obtain ⟨r425, h426, hx⟩ := bind_some' hx
    refine o_call rfl rfl (fun w' h' => (hM.call h').callO (l := []) fun X S oL hS hR hO => ct_impl_Compose _ X S ((el out324 (((out324.length : Int) - 1).toNat)).o) s421 ((el r314 k328).o) s349 hS (seeAW hO (.head _) (.head _)) (seeA hO (.tail _ (.tail _ (.head _)))) oL h426) ?_
    rintro w429 h430 _ w427 ⟨s428, rfl, hM⟩
    dsimp only [List.cons_append, List.nil_append] at hM
    refine omv rfl rfl ?_
    refine ov rfl (fun w' h' => r_extract rfl rfl) ?_
    refine ov rfl (fun w' h' => r_extract rfl rfl) ?_
    refine ov rfl (fun w' h' => r_assign rfl) ?_
    refine ov rfl (fun w' h' => r_assign rfl) ?_
    refine o_nilM hM fun w437 hM => ?_
    refine sq_n ?_
    refine wc_seq ?_
    refine wc_sr ?_
    refine wmv rfl rfl ?_
    refine wv rfl (r_not rfl) ?_
    refine wl_sq ?_
    refine wc_cond rfl (fun hc441 => ?_) (fun hc441 => ?_)
    ·
     replace hx := xif_t hc441 hx
     refine wc_sr ?_
     refine was rfl rfl ?_
     refine was rfl rfl ?_
     refine wl_sq ?_
     refine wc_ret ?_
     refine sq_ret ?_
     refine bk_ret ?_
     refine sq_ret ?_
     refine lp1_ret ?_
     obtain rfl := Option.some.inj hx
     obtain rfl := Option.some.inj hx336
     replace hx := hx322
     try dsimp only [Sum.elim_inl, Sum.elim_inr] at hx
     refine bk_ret ?_
     refine sq_ret ?_
     obtain rfl := Option.some.inj hx
     have hM := hM.nil0 (T := DEntry) 3 fDEntry
     refine fin_ret [nS.v, (.bool false)] ⟨rfl, rfl, trivial⟩ ?_
     replace hM := hM.t1
     have hM := hM.fewer rsN
     exact ⟨nS, rfl, hM.gives⟩
    ·
     replace hx := xif_f hc441 hx
     refine wc_skip ?_
     refine sq_n ?_
     refine wc_region ?_
     refine wmv rfl rfl ?_
     refine wmv rfl rfl ?_
     obtain ⟨hg448, hx⟩ := xg_some hx
     refine wv rfl (r_sub rfl rfl hg448) ?_
     refine wv rfl (r_fld Tryz.underlying70 rfl rfl sz3 rfl) ?_
     refine wv rfl (r_ldB Tryz.underlying3 rfl rfl hM (.tail _ (.tail _ (.head _))) rfl) ?_
     refine wv rfl (r_fld Tryz.underlying70 rfl rfl sz3 rfl) ?_
     refine wv rfl (r_ldB Tryz.underlying3 rfl rfl hM (.tail _ (.tail _ (.head _))) rfl) ?_
     refine wmv rfl rfl ?_
     refine wv rfl (r_build (cells := #[(.int .i64 ((el r314 k328).client)), (.int .i64 ((el r314 k328).seq)), s428.v]) rfl (by kernel_rfl)) ?_
     obtain ⟨hg457, hx⟩ := xg_some hx
     have hi456 : (((out324.length : Int) - 1).toNat) < out324.length := by omega
     refine wv rfl (r_ixC Tryz.underlying24 sz70 rfl rfl (hM.seeOV (.tail _ (.head _))) hg457) ?_
     replace hM := hM.p1
     replace hM : St ⟨w, X, S⟩ [oC (cSl 3 fDEntry out324) s326.v, oC (cSl 3 fDPart r425.1) s428.v, oBox b352 #[(.int .i64 ((el r314 k328).client)), (.int .i64 ((el r314 k328).seq)), s349.v] 70, oC (cSl 3 fDPart ((el r314 k328).o)) s349.v, oEat 3 fDEntry r314 s317.v (k328 + 1)] [] _ := hM.unview
     refine w_exu (x_stE (f := fDEntry) (k := 3) (L := out324) (i := (((out324.length : Int) - 1).toNat)) (j := 0) (⟨(el r314 k328).client, (el r314 k328).seq, r425.1⟩ : DEntry) [cI ((el r314 k328).client), cI ((el r314 k328).seq), cSl 3 fDPart r425.1] sz70 (fun _ => rfl) rfl rfl hi456 rfl rfl rfl rfl rfl (fun _ => zP (pV _ rfl) (zP (pV _ rfl) (zO zN))) hM ?_); intro w458 hM
     refine wl_nil ?_
     refine bk_n ?_
     refine sq_n ?_
     refine wc_region ?_
     refine wv rfl (r_add rfl rfl ⟨by omega, by omega⟩) ?_
     refine wmv rfl rfl ?_
     refine wl_nil ?_
     obtain rfl := Option.some.inj hx
     replace hM := hM.p3
     replace hM := hM.t2
     exact lp_end (m334, k328 + 1, out324.set (((out324.length : Int) - 1).toNat) (⟨(el r314 k328).client, (el r314 k328).seq, r425.1⟩ : DEntry), s326) (Nat.lt_succ_self _) ⟨rfl, rfl, rfl, rfl, trivial⟩ ⟨hM, hx336, hk329⟩
 ·
  replace hc333 := of_decide_eq_false hc333
  obtain rfl := eachN_end hx hk329 hc333
  refine wc_exit ?_
  refine sq_exit ?_
  refine lp1_exit ?_
  replace hx := hx322
  try dsimp only [Sum.elim_inl, Sum.elim_inr] at hx
  refine bk_here ?_
  refine sq_n ?_
  refine wc_sr ?_
  refine wmv rfl rfl ?_
  refine was rfl rfl ?_
  refine was rfl rfl ?_
  refine wl_sq ?_
  refine wc_ret ?_
  obtain rfl := Option.some.inj hx
  refine fin_ret [s326.v, (.bool true)] ⟨rfl, rfl, trivial⟩ ?_
  replace hM := hM.p1
  replace hM := hM.t1
  have hM := hM.fewer rsN
  exact ⟨s326, rfl, hM.gives⟩

noncomputable def x_impl_TextAt (d : DDoc) (rev : Int) : Option (List Int × Bool) :=
  Option.bind (x_impl_DocOk d) fun r8 => Option.bind (bif !r8 then (some true) else (Option.bind (x_impl_HeadRev d) fun r30 => Option.bind (x_impl_within rev d.from_ r30) fun r33 => some (!r33))) fun c13 => bif c13 then (some ([], false)) else (xg (inI (rev - d.from_)) <| xg (0 ≤ (rev - d.from_) ∧ (rev - d.from_) ≤ (d.list.length : Int)) <| Option.bind (x_impl_opsOf ((d.list.take ((rev - d.from_).toNat)).drop 0)) fun r52 => Option.bind (x_impl_ApplyAll r52 d.text) fun r60 => some (r60.1, r60.2))
theorem ct_impl_TextAt (w : World) (X S : Bs) (d : DDoc) (s_d_2 : Sv) (s_d_3 : Sv) (s_d_4 : Sv) (rev : Int) (hS : ∀ b, S b → b < w.heap.size ∧ ¬ X b) (a_d_2 : (cSl 1 fI d.text).rd S w s_d_2.v) (a_d_3 : (cSl 3 fDEntry d.list).rd S w s_d_3.v) (a_d_4 : (cSl 3 fDSeen d.seen).rd S w s_d_4.v) (oL : Sep [] X w) {r : List Int × Bool} (hx : x_impl_TextAt d rev = some r) :
  Ret Tryz.prog 8 [(.agg #[(.string d.name), (.int .i64 d.from_), s_d_2.v, s_d_3.v, s_d_4.v]), (.int .i64 rev)] w (fun u w' => ∃ y : Sv, u = .tuple #[y.v, (.bool r.2)] ∧ Gives X S w [oC (cSl 1 fI r.1) y.v] [] w') := by
 unfold x_impl_TextAt at hx
 refine enter Tryz.func8 rfl Tryz.ntmps8 (by kernel_rfl) rfl ?_
 have hM := St.enter oL hS
 have hM := hM.addE (r := rV s_d_2.v (cSl 1 fI d.text)) a_d_2
 have hM := hM.addE (r := rV s_d_3.v (cSl 3 fDEntry d.list)) a_d_3
 have hM := hM.addE (r := rV s_d_4.v (cSl 3 fDSeen d.seen)) a_d_4
 refine wc_sr ?_
 refine w_ex rfl (x_box rfl hM ?_); intro b74 w73 hR75 hM
 dsimp only [Value.cells] at hM
 refine was rfl rfl ?_
 refine was rfl rfl ?_
 refine wl_sq ?_
 refine wc_seq ?_
 refine wc_seq ?_
 refine wc_draw [(0, 0), (1, 0), (2, 0), (3, 0), (4, 0), (5, 0), (6, 0), (7, 0), (8, 0), (9, 0), (10, 0), (11, 0)] Tryz_mixed (by kernel_rfl) rfl (by kernel_rfl) rfl ?_
 refine ov rfl (fun w' h' => r_ldBS Tryz.underlying27 sz27 rfl (us := [(.string d.name), (.int .i64 d.from_), s_d_2.v, s_d_3.v, s_d_4.v]) rfl (hM.call h') (.head _) rfl) ?_
 obtain ⟨r80, h81, hx⟩ := bind_some' hx
 refine oc rfl rfl (fun w' h' => (hM.call h').callV fun X S oL hS hR hO => ct_impl_DocOk _ X S d s_d_2 s_d_3 s_d_4 hS (hR _ (.tail _ (.tail _ (.head _)))) (hR _ (.tail _ (.head _))) (hR _ (.head _)) oL h81) ?_
 refine ov rfl (fun w' h' => r_not rfl) ?_
 refine omv rfl rfl ?_
 obtain ⟨c85, hx, hx98⟩ := bind_some' hx
 refine wo_mid 8 [(17, (.bool c85)), (1, (.int .i64 rev)), (2, (.pointer (some ⟨b74, 0, none⟩)))] rfl ?_ ?_
 ·
  rcases Bool.eq_false_or_eq_true (!r80) with hg86 | hg86
  ·
   replace hx := xif_t hg86 hx
   refine ogs rfl (isB_no hg86) rfl ?_
   refine ogs rfl (isB_no hg86) rfl ?_
   refine ogs rfl (isB_no hg86) rfl ?_
   refine ogs rfl (isB_no hg86) rfl ?_
   refine ogs rfl (isB_no hg86) rfl ?_
   refine ogs rfl (isB_no hg86) rfl ?_
   refine ogs rfl (isB_no hg86) rfl ?_
   refine ov rfl (fun w' h' => p_t rfl hg86 rfl) ?_
   obtain rfl := Option.some.inj hx
   exact mid_onil ⟨rfl, rfl, rfl, trivial⟩
  ·
   replace hx := xif_f hg86 hx
   refine ogv rfl hg86 rfl (fun w' h' => r_move rfl) ?_
   refine ogv rfl hg86 rfl (fun w' h' => r_fld Tryz.underlying27 rfl rfl sz3 rfl) ?_
   refine ogv rfl hg86 rfl (fun w' h' => r_ldB Tryz.underlying3 rfl rfl (hM.call h') (.head _) rfl) ?_
   refine ogv rfl hg86 rfl (fun w' h' => r_ldBS Tryz.underlying27 sz27 rfl (us := [(.string d.name), (.int .i64 d.from_), s_d_2.v, s_d_3.v, s_d_4.v]) rfl (hM.call h') (.head _) rfl) ?_
   obtain ⟨r103, h104, hx⟩ := bind_some' hx
   refine ogc rfl hg86 rfl rfl (fun w' h' => (hM.call h').callV fun X S oL hS hR hO => ct_impl_HeadRev _ X S d s_d_2 s_d_3 s_d_4 hS (hR _ (.tail _ (.tail _ (.head _)))) (hR _ (.tail _ (.head _))) (hR _ (.head _)) oL h104) ?_
   obtain ⟨r106, h107, hx⟩ := bind_some' hx
   refine ogc rfl hg86 rfl rfl (fun w' h' => (hM.call h').callV fun X S oL hS hR hO => ct_impl_within _ X S rev d.from_ r103 hS  oL h107) ?_
   refine ogv rfl hg86 rfl (fun w' h' => r_not rfl) ?_
   refine ov rfl (fun w' h' => p_f rfl hg86 rfl) ?_
   obtain rfl := Option.some.inj hx
   exact mid_onil ⟨rfl, rfl, rfl, trivial⟩
 replace hx := hx98
 refine o_nilM hM fun w110 hM => ?_
 refine sq_n ?_
 refine wc_cond rfl (fun hc112 => ?_) (fun hc112 => ?_)
 ·
  replace hx := xif_t hc112 hx
  refine wc_sr ?_
  refine was rfl rfl ?_
  refine was rfl rfl ?_
  refine wl_sq ?_
  refine wc_ret ?_
  refine sq_ret ?_
  obtain rfl := Option.some.inj hx
  have hM := hM.nil0 (T := Int) 1 fI
  refine fin_ret [nS.v, (.bool false)] ⟨rfl, rfl, trivial⟩ ?_
  replace hM := hM.t1
  have hM := hM.fewer rsN
  exact ⟨nS, rfl, hM.gives⟩
 ·
  replace hx := xif_f hc112 hx
  refine wc_skip ?_
  refine sq_n ?_
  refine wc_seq ?_
  refine wc_draw [(0, 0), (1, 0), (2, 0), (3, 0), (4, 0), (5, 0), (6, 0), (8, 0), (9, 0), (7, 1), (10, 2), (11, 0), (12, 0), (13, 0), (14, 0)] Tryz_mixed (by kernel_rfl) rfl (by kernel_rfl) rfl ?_
  refine ov rfl (fun w' h' => r_fld Tryz.underlying27 rfl rfl sz24 rfl) ?_
  refine ov rfl (fun w' h' => r_ldB Tryz.underlying24 rfl rfl (hM.call h') (.head _) rfl) ?_
  refine omv rfl rfl ?_
  refine ov rfl (fun w' h' => r_fld Tryz.underlying27 rfl rfl sz3 rfl) ?_
  refine ov rfl (fun w' h' => r_ldB Tryz.underlying3 rfl rfl (hM.call h') (.head _) rfl) ?_
  obtain ⟨hg122, hx⟩ := xg_some hx
  refine ov rfl (fun w' h' => r_sub rfl rfl hg122) ?_
  obtain ⟨hg124, hx⟩ := xg_some hx
  have hM := hM.cutR (L := d.list) (f := fDEntry) (lo := 0) (hi := ((rev - d.from_).toNat)) (fun _ => rfl) (by omega) (by omega) (.tail _ (.head _))
  refine ov rfl (fun w' h' => r_slc_hi Tryz.underlying24 sz70 rfl rfl ((hM.call h').seeR (.tail _ (.tail _ (.head _)))) hg124) ?_
  refine ov rfl (fun w' h' => r_fld Tryz.underlying27 rfl rfl sz23 rfl) ?_
  refine ov rfl (fun w' h' => r_ldB Tryz.underlying23 rfl rfl (hM.call h') (.head _) rfl) ?_
  obtain ⟨r127, h128, hx⟩ := bind_some' hx
  refine o_forced rfl rfl (fun w' h' => (hM.call h').callF fun X S oL hS hR hO => ct_impl_opsOf _ X S ((d.list.take ((rev - d.from_).toNat)).drop 0) (s_d_3.cut 3 0 ((rev - d.from_).toNat)) hS (hR _ (.head _)) oL h128) ?_
  rintro w131 h132 _ w129 ⟨hR133, s130, rfl, hM⟩
  refine ⟨hR133, ?_⟩
  dsimp only [List.cons_append, List.nil_append] at hM
  obtain ⟨r135, h136, hx⟩ := bind_some' hx
  refine o_call rfl rfl (fun w' h' => (hM.call h').callO (l := []) fun X S oL hS hR hO => ct_impl_ApplyAll _ X S r127 s130 d.text s_d_2 hS (seeA hO (.head _)) (hR _ (.tail _ (.tail _ (.tail _ (.head _))))) oL h136) ?_
  rintro w139 h140 _ w137 ⟨s138, rfl, hM⟩
  dsimp only [List.cons_append, List.nil_append] at hM
  refine ov rfl (fun w' h' => r_extract rfl rfl) ?_
  refine ov rfl (fun w' h' => r_extract rfl rfl) ?_
  refine ov rfl (fun w' h' => r_assign rfl) ?_
  refine ov rfl (fun w' h' => r_assign rfl) ?_
  refine o_nilM hM fun w146 hM => ?_
  refine sq_n ?_
  refine wc_ret ?_
  obtain rfl := Option.some.inj hx
  refine fin_ret [s138.v, (.bool r135.2)] ⟨rfl, rfl, trivial⟩ ?_
  replace hM := hM.t1
  have hM := hM.fewer rsN
  exact ⟨s138, rfl, hM.gives⟩

noncomputable def x_impl_copyDoc (d : DDoc) : Option DDoc :=
  Option.bind (x_impl_copyInts d.text) fun r19 => Option.bind (x_impl_copyEntries d.list) fun r27 => xg (0 + d.seen.length ≤ 1099511627776) <| some (⟨d.name, d.from_, r19, r27, [] ++ d.seen⟩ : DDoc)
theorem ct_impl_copyDoc (w : World) (X S : Bs) (d : DDoc) (s_d_2 : Sv) (s_d_3 : Sv) (s_d_4 : Sv) (hS : ∀ b, S b → b < w.heap.size ∧ ¬ X b) (a_d_2 : (cSl 1 fI d.text).rd S w s_d_2.v) (a_d_3 : (cSl 3 fDEntry d.list).rd S w s_d_3.v) (a_d_4 : (cSl 3 fDSeen d.seen).rd S w s_d_4.v) (oL : Sep [] X w) {r : DDoc} (hx : x_impl_copyDoc d = some r) :
  Ret Tryz.prog 40 [(.agg #[(.string d.name), (.int .i64 d.from_), s_d_2.v, s_d_3.v, s_d_4.v])] w (fun u w' => ∃ y : Sv × Sv × Sv, u = .agg #[(.string r.name), (.int .i64 r.from_), y.1.v, y.2.1.v, y.2.2.v] ∧ Gives X S w [oC (cSl 1 fI r.text) y.1.v, oC (cSl 3 fDEntry r.list) y.2.1.v, oC (cSl 3 fDSeen r.seen) y.2.2.v] [] w') := by
 unfold x_impl_copyDoc at hx
 refine enter Tryz.func40 rfl Tryz.ntmps40 (by kernel_rfl) rfl ?_
 have hM := St.enter oL hS
 have hM := hM.addE (r := rV s_d_2.v (cSl 1 fI d.text)) a_d_2
 have hM := hM.addE (r := rV s_d_3.v (cSl 3 fDEntry d.list)) a_d_3
 have hM := hM.addE (r := rV s_d_4.v (cSl 3 fDSeen d.seen)) a_d_4
 refine wc_sr ?_
 refine w_ex rfl (x_box rfl hM ?_); intro b50 w49 hR51 hM
 dsimp only [Value.cells] at hM
 refine w_ex rfl (x_alloc sz27 hM ?_); intro b54 w53 hR55 hM
 dsimp only [Value.cells] at hM
 refine wl_sq ?_
 refine wc_seq ?_
 refine wc_draw [(0, 0), (1, 0), (2, 0), (3, 0), (4, 0), (5, 0), (7, 0), (8, 0), (10, 0), (11, 0), (6, 1), (9, 1), (12, 1), (13, 0), (14, 2)] Tryz_mixed (by kernel_rfl) rfl (by kernel_rfl) rfl ?_
 refine ov rfl (fun w' h' => r_fld Tryz.underlying27 rfl rfl sz9 rfl) ?_
 refine ov rfl (fun w' h' => r_ldB Tryz.underlying9 rfl rfl (hM.call h') (.tail _ (.head _)) rfl) ?_
 refine ov rfl (fun w' h' => r_fld Tryz.underlying27 rfl rfl sz3 rfl) ?_
 refine ov rfl (fun w' h' => r_ldB Tryz.underlying3 rfl rfl (hM.call h') (.tail _ (.head _)) rfl) ?_
 refine ov rfl (fun w' h' => r_fld Tryz.underlying27 rfl rfl sz23 rfl) ?_
 refine ov rfl (fun w' h' => r_ldB Tryz.underlying23 rfl rfl (hM.call h') (.tail _ (.head _)) rfl) ?_
 refine ov rfl (fun w' h' => r_fld Tryz.underlying27 rfl rfl sz24 rfl) ?_
 refine ov rfl (fun w' h' => r_ldB Tryz.underlying24 rfl rfl (hM.call h') (.tail _ (.head _)) rfl) ?_
 refine ov rfl (fun w' h' => r_fld Tryz.underlying27 rfl rfl sz25 rfl) ?_
 refine ov rfl (fun w' h' => r_ldB Tryz.underlying25 rfl rfl (hM.call h') (.tail _ (.head _)) rfl) ?_
 obtain ⟨r67, h68, hx⟩ := bind_some' hx
 refine o_forced rfl rfl (fun w' h' => (hM.call h').callF fun X S oL hS hR hO => ct_impl_copyInts _ X S d.text s_d_2 hS (hR _ (.tail _ (.tail _ (.head _)))) oL h68) ?_
 rintro w71 h72 _ w69 ⟨hR73, s70, rfl, hM⟩
 refine ⟨hR73, ?_⟩
 dsimp only [List.cons_append, List.nil_append] at hM
 obtain ⟨r75, h76, hx⟩ := bind_some' hx
 refine o_forced rfl rfl (fun w' h' => (hM.call h').callF fun X S oL hS hR hO => ct_impl_copyEntries _ X S d.list s_d_3 hS (hR _ (.tail _ (.head _))) oL h76) ?_
 rintro w79 h80 _ w77 ⟨hR81, s78, rfl, hM⟩
 refine ⟨hR81, ?_⟩
 dsimp only [List.cons_append, List.nil_append] at hM
 have hM := hM.nil0 (T := DSeen) 3 fDSeen
 obtain ⟨hg86, hx⟩ := xg_some hx
 refine o_ex1 rfl fun w88 h89 => ?_
 have hM := hM.call h89
 refine x_appendN (f := fDSeen) Tryz.underlying25 sz83 rfl rfl (hM.seeR (.head _)) flDSeen hM hg86 rfl ?_; intro s84 w83 hR87 hM
 refine ⟨hR87, ?_⟩
 refine ov rfl (fun w' h' => r_build (cells := #[(.string d.name), (.int .i64 d.from_), s70.v, s78.v, s84.v]) rfl (by kernel_rfl)) ?_
 replace hM := hM.p3
 refine o_exu fun w93 h94 => ?_
 have hM := hM.call h94
 refine x_stB #[(.string d.name), (.int .i64 d.from_), s70.v, s78.v, s84.v] sz27 rfl rfl rfl rfl rfl rfl hM ?_; intro w91 hM
 refine o_nilM hM fun w95 hM => ?_
 refine sq_n ?_
 refine wc_ret ?_
 obtain rfl := Option.some.inj hx
 refine fin_ret [(.agg #[(.string d.name), (.int .i64 d.from_), s70.v, s78.v, s84.v])] ⟨rv_box Tryz.underlying27 sz27 rfl rfl hM (.head _), trivial⟩ ?_
 replace hM := hM.p1.p2.p3
 replace hM := hM.t3
 have hM := hM.fewer rsN
 exact ⟨(s70, s78, s84), rfl, hM.gives⟩

noncomputable def x_impl_Forget (d : DDoc) (n : Int) : Option (DDoc × Bool) :=
  Option.bind (x_impl_DocOk d) fun r11 => Option.bind (bif !r11 then (some true) else (some (decide (n < 0)))) fun c17 => bif c17 then (some ((⟨ByteArray.empty, 0, [], [], []⟩ : DDoc), false)) else (Option.bind (x_impl_copyDoc d) fun r28 => xg (inI ((d.list.length : Int) - n)) <| bif decide ((0 : Int) < ((d.list.length : Int) - n)) then (xg (inI (d.from_ + ((d.list.length : Int) - n))) <| Option.bind (x_impl_TextAt d (d.from_ + ((d.list.length : Int) - n))) fun r58 => xg (inI (r28.from_ + ((d.list.length : Int) - n))) <| xg (0 ≤ ((d.list.length : Int) - n) ∧ ((d.list.length : Int) - n) ≤ (r28.list.length : Int)) <| some ((⟨r28.name, r28.from_ + ((d.list.length : Int) - n), r58.1, (r28.list.take r28.list.length).drop (((d.list.length : Int) - n).toNat), r28.seen⟩ : DDoc), true)) else (some (r28, true)))
theorem ct_impl_Forget (w : World) (X S : Bs) (d : DDoc) (s_d_2 : Sv) (s_d_3 : Sv) (s_d_4 : Sv) (n : Int) (hS : ∀ b, S b → b < w.heap.size ∧ ¬ X b) (a_d_2 : (cSl 1 fI d.text).rd S w s_d_2.v) (a_d_3 : (cSl 3 fDEntry d.list).rd S w s_d_3.v) (a_d_4 : (cSl 3 fDSeen d.seen).rd S w s_d_4.v) (oL : Sep [] X w) {r : DDoc × Bool} (hx : x_impl_Forget d n = some r) :
  Ret Tryz.prog 14 [(.agg #[(.string d.name), (.int .i64 d.from_), s_d_2.v, s_d_3.v, s_d_4.v]), (.int .i64 n)] w (fun u w' => ∃ y : Sv × Sv × Sv, u = .tuple #[.agg #[(.string r.1.name), (.int .i64 r.1.from_), y.1.v, y.2.1.v, y.2.2.v], (.bool r.2)] ∧ Gives X S w [oC (cSl 1 fI r.1.text) y.1.v, oC (cSl 3 fDEntry r.1.list) y.2.1.v, oC (cSl 3 fDSeen r.1.seen) y.2.2.v] [] w') := by
 unfold x_impl_Forget at hx
 refine enter Tryz.func14 rfl Tryz.ntmps14 (by kernel_rfl) rfl ?_
 have hM := St.enter oL hS
 have hM := hM.addE (r := rV s_d_2.v (cSl 1 fI d.text)) a_d_2
 have hM := hM.addE (r := rV s_d_3.v (cSl 3 fDEntry d.list)) a_d_3
 have hM := hM.addE (r := rV s_d_4.v (cSl 3 fDSeen d.seen)) a_d_4
 refine wc_sr ?_
 refine w_ex rfl (x_box rfl hM ?_); intro b94 w93 hR95 hM
 dsimp only [Value.cells] at hM
 refine w_ex rfl (x_alloc sz27 hM ?_); intro b98 w97 hR99 hM
 dsimp only [Value.cells] at hM
 refine was rfl rfl ?_
 refine wl_sq ?_
 refine wc_seq ?_
 refine wc_sr ?_
 refine wv rfl (r_ldBS Tryz.underlying27 sz27 rfl (us := [(.string d.name), (.int .i64 d.from_), s_d_2.v, s_d_3.v, s_d_4.v]) rfl hM (.tail _ (.head _)) rfl) ?_
 obtain ⟨r103, h104, hx⟩ := bind_some' hx
 refine w_call rfl rfl (hM.callV fun X S oL hS hR hO => ct_impl_DocOk _ X S d s_d_2 s_d_3 s_d_4 hS (hR _ (.tail _ (.tail _ (.head _)))) (hR _ (.tail _ (.head _))) (hR _ (.head _)) oL h104) ?_
 rintro _ w105 ⟨rfl, hR106⟩
 have hM := hM.call hR106
 refine wv rfl (r_not rfl) ?_
 refine wmv rfl rfl ?_
 obtain ⟨c109, hx, hx113⟩ := bind_some' hx
 refine wl_mid 3 (fun _ : Unit => [(14, (.bool c109)), (1, (.int .i64 n)), (2, (.pointer (some ⟨b94, 0, none⟩))), (4, (.pointer (some ⟨b98, 0, none⟩)))]) (fun _ w' => St ⟨w, X, S⟩ [oBox b98 #[(.string ByteArray.empty), (.int .i64 0), (.slice none 0 0), (.slice none 0 0), (.slice none 0 0)] 27, oBox b94 #[(.string d.name), (.int .i64 d.from_), s_d_2.v, s_d_3.v, s_d_4.v] 27] [rV s_d_4.v (cSl 3 fDSeen d.seen), rV s_d_3.v (cSl 3 fDEntry d.list), rV s_d_2.v (cSl 1 fI d.text)] w') ?_ ?_
 ·
  rcases Bool.eq_false_or_eq_true (!r103) with hg110 | hg110
  ·
   replace hx := xif_t hg110 hx
   refine gs rfl (isB_no hg110) rfl ?_
   refine gs rfl (isB_no hg110) rfl ?_
   refine wv rfl (p_t rfl hg110 rfl) ?_
   obtain rfl := Option.some.inj hx
   exact mid_nil () ⟨rfl, rfl, rfl, rfl, trivial⟩ hM
  ·
   replace hx := xif_f hg110 hx
   refine gv rfl hg110 rfl (r_move rfl) ?_
   refine gv rfl hg110 rfl (r_lss rfl rfl) ?_
   refine wv rfl (p_f rfl hg110 rfl) ?_
   obtain rfl := Option.some.inj hx
   exact mid_nil () ⟨rfl, rfl, rfl, rfl, trivial⟩ hM
 rintro _ w116 hM
 replace hx := hx113
 refine wl_sq ?_
 refine wc_cond rfl (fun hc117 => ?_) (fun hc117 => ?_)
 ·
  replace hx := xif_t hc117 hx
  refine wc_sr ?_
  refine wv rfl (r_build (cells := #[(.string ByteArray.empty), (.int .i64 0), (.slice none 0 0), (.slice none 0 0), (.slice none 0 0)]) rfl (by kernel_rfl)) ?_
  refine w_exu (x_stB #[(.string ByteArray.empty), (.int .i64 0), (.slice none 0 0), (.slice none 0 0), (.slice none 0 0)] sz27 rfl rfl rfl rfl rfl rfl hM ?_); intro w119 hM
  refine was rfl rfl ?_
  refine wl_sq ?_
  refine wc_ret ?_
  refine sq_ret ?_
  obtain rfl := Option.some.inj hx
  have hM := hM.nil0 (T := Int) 1 fI
  have hM := hM.nil0 (T := DEntry) 3 fDEntry
  have hM := hM.nil0 (T := DSeen) 3 fDSeen
  refine fin_ret [(.agg #[(.string ByteArray.empty), (.int .i64 0), nS.v, nS.v, nS.v]), (.bool false)] ⟨rv_box Tryz.underlying27 sz27 rfl rfl hM (.tail _ (.tail _ (.tail _ (.head _)))), rfl, trivial⟩ ?_
  replace hM := hM.p1.p2
  replace hM := hM.t3
  have hM := hM.fewer rsN
  exact ⟨(nS, nS, nS), rfl, hM.gives⟩
 ·
  replace hx := xif_f hc117 hx
  refine wc_skip ?_
  refine sq_n ?_
  refine wc_sr ?_
  refine wv rfl (r_ldBS Tryz.underlying27 sz27 rfl (us := [(.string d.name), (.int .i64 d.from_), s_d_2.v, s_d_3.v, s_d_4.v]) rfl hM (.tail _ (.head _)) rfl) ?_
  obtain ⟨r126, h127, hx⟩ := bind_some' hx
  refine w_call rfl rfl (hM.callO (l := []) fun X S oL hS hR hO => ct_impl_copyDoc _ X S d s_d_2 s_d_3 s_d_4 hS (hR _ (.tail _ (.tail _ (.head _)))) (hR _ (.tail _ (.head _))) (hR _ (.head _)) oL h127) ?_
  rintro _ w128 ⟨⟨s129, s130, s131⟩, rfl, hM⟩
  dsimp only [List.cons_append, List.nil_append] at hM
  refine w_ex rfl (x_alloc sz27 hM ?_); intro b136 w135 hR137 hM
  dsimp only [Value.cells] at hM
  refine w_exu (x_stB #[(.string r126.name), (.int .i64 r126.from_), s129.v, s130.v, s131.v] sz27 rfl rfl rfl rfl rfl rfl hM ?_); intro w139 hM
  refine wl_sq ?_
  refine wc_seq ?_
  refine wc_sr ?_
  refine wv rfl (r_fld Tryz.underlying27 rfl rfl sz24 rfl) ?_
  refine wv rfl (r_ldB Tryz.underlying24 rfl rfl hM (.tail _ (.tail _ (.tail _ (.tail _ (.tail _ (.head _)))))) rfl) ?_
  refine wv rfl (r_lenC Tryz.underlying24 rfl (hM.seeR (.tail _ (.head _)))) ?_
  refine wmv rfl rfl ?_
  obtain ⟨hg146, hx⟩ := xg_some hx
  refine wv rfl (r_sub rfl rfl hg146) ?_
  refine was rfl rfl ?_
  refine wl_sq ?_
  refine wc_sr ?_
  refine wmv rfl rfl ?_
  refine wv rfl (r_gtr rfl rfl) ?_
  refine wl_sq ?_
  refine wc_cond rfl (fun hc150 => ?_) (fun hc150 => ?_)
  ·
   replace hx := xif_t hc150 hx
   refine wc_sr ?_
   refine wv rfl (r_ldBS Tryz.underlying27 sz27 rfl (us := [(.string d.name), (.int .i64 d.from_), s_d_2.v, s_d_3.v, s_d_4.v]) rfl hM (.tail _ (.tail _ (.tail _ (.tail _ (.tail _ (.head _)))))) rfl) ?_
   refine wv rfl (r_fld Tryz.underlying27 rfl rfl sz3 rfl) ?_
   refine wv rfl (r_ldB Tryz.underlying3 rfl rfl hM (.tail _ (.tail _ (.tail _ (.tail _ (.tail _ (.head _)))))) rfl) ?_
   refine wmv rfl rfl ?_
   obtain ⟨hg156, hx⟩ := xg_some hx
   refine wv rfl (r_add rfl rfl hg156) ?_
   obtain ⟨r157, h158, hx⟩ := bind_some' hx
   refine w_call rfl rfl (hM.callO (l := []) fun X S oL hS hR hO => ct_impl_TextAt _ X S d s_d_2 s_d_3 s_d_4 (d.from_ + ((d.list.length : Int) - n)) hS (hR _ (.tail _ (.tail _ (.head _)))) (hR _ (.tail _ (.head _))) (hR _ (.head _)) oL h158) ?_
   rintro _ w159 ⟨s160, rfl, hM⟩
   dsimp only [List.cons_append, List.nil_append] at hM
   refine wmv rfl rfl ?_
   refine wv rfl (r_extract rfl rfl) ?_
   refine wv rfl (r_extract rfl rfl) ?_
   refine wv rfl (r_fld Tryz.underlying27 rfl rfl sz23 rfl) ?_
   replace hM := hM.p1
   refine w_exu (x_stB #[(.string r126.name), (.int .i64 r126.from_), s160.v, s130.v, s131.v] sz23 rfl rfl rfl rfl rfl rfl hM ?_); intro w166 hM
   refine wl_sq ?_
   refine wc_sr ?_
   refine wv rfl (r_fld Tryz.underlying27 rfl rfl sz3 rfl) ?_
   refine wv rfl (r_ldB Tryz.underlying3 rfl rfl hM (.head _) rfl) ?_
   refine wmv rfl rfl ?_
   obtain ⟨hg172, hx⟩ := xg_some hx
   refine wv rfl (r_add rfl rfl hg172) ?_
   refine wv rfl (r_fld Tryz.underlying27 rfl rfl sz3 rfl) ?_
   refine w_exu (x_stB #[(.string r126.name), (.int .i64 (r126.from_ + ((d.list.length : Int) - n))), s160.v, s130.v, s131.v] sz3 rfl rfl rfl rfl rfl rfl hM ?_); intro w174 hM
   refine wl_sq ?_
   refine wc_region ?_
   refine wv rfl (r_fld Tryz.underlying27 rfl rfl sz24 rfl) ?_
   refine wv rfl (r_ldB Tryz.underlying24 rfl rfl hM (.head _) rfl) ?_
   refine wmv rfl rfl ?_
   replace hM := hM.p3
   obtain ⟨hg180, hx⟩ := xg_some hx
   refine wv rfl (r_slc_lo Tryz.underlying24 sz70 rfl rfl (hM.seeO (.head _)) hg180) ?_
   have hM := hM.cutO (L := r126.list) (f := fDEntry) (lo := (((d.list.length : Int) - n).toNat)) (hi := r126.list.length) (fun _ => rfl) (by omega) (by omega)
   refine wv rfl (r_fld Tryz.underlying27 rfl rfl sz24 rfl) ?_
   replace hM := hM.p1
   refine w_exu (x_stB #[(.string r126.name), (.int .i64 (r126.from_ + ((d.list.length : Int) - n))), s160.v, (s130.cut 3 (((d.list.length : Int) - n).toNat) r126.list.length).v, s131.v] sz24 rfl rfl rfl rfl rfl rfl hM ?_); intro w182 hM
   refine wl_sq ?_
   refine wc_sr ?_
   refine wv rfl (r_ldBS Tryz.underlying27 sz27 rfl (us := [(.string r126.name), (.int .i64 (r126.from_ + ((d.list.length : Int) - n))), s160.v, (s130.cut 3 (((d.list.length : Int) - n).toNat) r126.list.length).v, s131.v]) rfl hM (.head _) rfl) ?_
   replace hM := hM.p5
   refine w_exu (x_stB #[(.string r126.name), (.int .i64 (r126.from_ + ((d.list.length : Int) - n))), s160.v, (s130.cut 3 (((d.list.length : Int) - n).toNat) r126.list.length).v, s131.v] sz27 rfl rfl rfl rfl rfl rfl hM ?_); intro w185 hM
   refine was rfl rfl ?_
   refine wl_sq ?_
   refine wc_ret ?_
   obtain rfl := Option.some.inj hx
   refine fin_ret [(.agg #[(.string r126.name), (.int .i64 (r126.from_ + ((d.list.length : Int) - n))), s160.v, (s130.cut 3 (((d.list.length : Int) - n).toNat) r126.list.length).v, s131.v]), (.bool true)] ⟨rv_box Tryz.underlying27 sz27 rfl rfl hM (.head _), rfl, trivial⟩ ?_
   replace hM := hM.p5.p3.p4
   replace hM := hM.t3
   have hM := hM.fewer rsN
   exact ⟨(s160, (s130.cut 3 (((d.list.length : Int) - n).toNat) r126.list.length), s131), rfl, hM.gives⟩
  ·
   replace hx := xif_f hc150 hx
   refine wc_skip ?_
   refine sq_n ?_
   refine wc_sr ?_
   refine wv rfl (r_ldBS Tryz.underlying27 sz27 rfl (us := [(.string r126.name), (.int .i64 r126.from_), s129.v, s130.v, s131.v]) rfl hM (.head _) rfl) ?_
   replace hM := hM.p4
   refine w_exu (x_stB #[(.string r126.name), (.int .i64 r126.from_), s129.v, s130.v, s131.v] sz27 rfl rfl rfl rfl rfl rfl hM ?_); intro w189 hM
   refine was rfl rfl ?_
   refine wl_sq ?_
   refine wc_ret ?_
   obtain rfl := Option.some.inj hx
   refine fin_ret [(.agg #[(.string r126.name), (.int .i64 r126.from_), s129.v, s130.v, s131.v]), (.bool true)] ⟨rv_box Tryz.underlying27 sz27 rfl rfl hM (.head _), rfl, trivial⟩ ?_
   replace hM := hM.p4.p4.p4
   replace hM := hM.t3
   have hM := hM.fewer rsN
   exact ⟨(s129, s130, s131), rfl, hM.gives⟩

noncomputable def x_impl_HeadText (d : DDoc) : Option (List Int) :=
  Option.bind (x_impl_HeadRev d) fun r8 => Option.bind (x_impl_TextAt d r8) fun r11 => some r11.1
theorem ct_impl_HeadText (w : World) (X S : Bs) (d : DDoc) (s_d_2 : Sv) (s_d_3 : Sv) (s_d_4 : Sv) (hS : ∀ b, S b → b < w.heap.size ∧ ¬ X b) (a_d_2 : (cSl 1 fI d.text).rd S w s_d_2.v) (a_d_3 : (cSl 3 fDEntry d.list).rd S w s_d_3.v) (a_d_4 : (cSl 3 fDSeen d.seen).rd S w s_d_4.v) (oL : Sep [] X w) {r : List Int} (hx : x_impl_HeadText d = some r) :
  Ret Tryz.prog 6 [(.agg #[(.string d.name), (.int .i64 d.from_), s_d_2.v, s_d_3.v, s_d_4.v])] w (fun u w' => ∃ y : Sv, u = y.v ∧ Gives X S w [oC (cSl 1 fI r) y.v] [] w') := by
 unfold x_impl_HeadText at hx
 refine enter Tryz.func6 rfl Tryz.ntmps6 (by kernel_rfl) rfl ?_
 have hM := St.enter oL hS
 have hM := hM.addE (r := rV s_d_2.v (cSl 1 fI d.text)) a_d_2
 have hM := hM.addE (r := rV s_d_3.v (cSl 3 fDEntry d.list)) a_d_3
 have hM := hM.addE (r := rV s_d_4.v (cSl 3 fDSeen d.seen)) a_d_4
 refine wc_sr ?_
 refine w_ex rfl (x_box rfl hM ?_); intro b28 w27 hR29 hM
 dsimp only [Value.cells] at hM
 refine was rfl rfl ?_
 refine wl_sq ?_
 refine wc_seq ?_
 refine wc_draw [(0, 0), (1, 0), (2, 0), (3, 2), (4, 0), (5, 0), (6, 0), (7, 0), (8, 0)] Tryz_mixed (by kernel_rfl) rfl (by kernel_rfl) rfl ?_
 refine ov rfl (fun w' h' => r_ldBS Tryz.underlying27 sz27 rfl (us := [(.string d.name), (.int .i64 d.from_), s_d_2.v, s_d_3.v, s_d_4.v]) rfl (hM.call h') (.head _) rfl) ?_
 refine ov rfl (fun w' h' => r_ldBS Tryz.underlying27 sz27 rfl (us := [(.string d.name), (.int .i64 d.from_), s_d_2.v, s_d_3.v, s_d_4.v]) rfl (hM.call h') (.head _) rfl) ?_
 obtain ⟨r34, h35, hx⟩ := bind_some' hx
 refine oc rfl rfl (fun w' h' => (hM.call h').callV fun X S oL hS hR hO => ct_impl_HeadRev _ X S d s_d_2 s_d_3 s_d_4 hS (hR _ (.tail _ (.tail _ (.head _)))) (hR _ (.tail _ (.head _))) (hR _ (.head _)) oL h35) ?_
 obtain ⟨r37, h38, hx⟩ := bind_some' hx
 refine o_call rfl rfl (fun w' h' => (hM.call h').callO (l := []) fun X S oL hS hR hO => ct_impl_TextAt _ X S d s_d_2 s_d_3 s_d_4 r34 hS (hR _ (.tail _ (.tail _ (.head _)))) (hR _ (.tail _ (.head _))) (hR _ (.head _)) oL h38) ?_
 rintro w41 h42 _ w39 ⟨s40, rfl, hM⟩
 dsimp only [List.cons_append, List.nil_append] at hM
 refine omv rfl rfl ?_
 refine ov rfl (fun w' h' => r_extract rfl rfl) ?_
 refine ov rfl (fun w' h' => r_extract rfl rfl) ?_
 refine ov rfl (fun w' h' => r_assign rfl) ?_
 refine ov rfl (fun w' h' => r_assign rfl) ?_
 refine o_nilM hM fun w49 hM => ?_
 refine sq_n ?_
 refine wc_sr ?_
 refine wmv rfl rfl ?_
 refine was rfl rfl ?_
 refine wl_sq ?_
 refine wc_ret ?_
 obtain rfl := Option.some.inj hx
 refine fin_ret [s40.v] ⟨rfl, trivial⟩ ?_
 replace hM := hM.t1
 have hM := hM.fewer rsN
 exact ⟨s40, rfl, hM.gives⟩

noncomputable def x_laws_FnFold_b0 (r7 : DDoc) (r23 : List Int) (rev32 : Int) : Option (Lr Int (Sum Unit Unit)) :=
  Option.bind (x_impl_HeadRev r7) fun r189 => bif decide (rev32 ≤ r189) then (Option.bind (x_impl_TextAt r7 rev32) fun r196 => Option.bind (x_impl_Fetch r7 rev32) fun r208 => Option.bind (x_impl_Fold r196.1 r208.1) fun r220 => Option.bind (x_impl_Squash r208.1) fun r231 => Option.bind (x_impl_Fold r196.1 r231.1) fun r243 => Option.bind (bif !r196.2 then (some true) else (some (!decide (r208.2 = 0)))) fun c256 => Option.bind (bif c256 then (some true) else (some (!r220.2))) fun c263 => Option.bind (bif c263 then (some true) else (some (!r231.2))) fun c270 => Option.bind (bif c270 then (some true) else (some (!r243.2))) fun c277 => Option.bind (bif c277 then (some true) else (Option.bind (x_impl_SignsSame r220.1 r23) fun r295 => some (!r295))) fun c284 => Option.bind (bif c284 then (some true) else (Option.bind (x_impl_SignsSame r243.1 r23) fun r312 => some (!r312))) fun c301 => Option.bind (bif c301 then (some true) else (Option.bind (x_impl_Tells r7 rev32 r208.1) fun r331 => some (!r331))) fun c318 => bif c318 then (some (Lr.out (Sum.inr (())))) else (xg (inI (rev32 + 1)) <| some (Lr.go (rev32 + 1)))) else (some (Lr.out (Sum.inl ())))
noncomputable def x_laws_FnFold_f0 (r7 : DDoc) (r23 : List Int) (s341 : Int) : Option (Lr Int (Sum Unit Unit)) := x_laws_FnFold_b0 r7 r23 s341
noncomputable def x_laws_FnFold (code : List UInt8) : Option Bool :=
  bif decide ((1048576 : Int) < (code.length : Int)) then (some true) else (Option.bind (x_spec_MakeDoc code) fun r7 => Option.bind (x_impl_HeadText r7) fun r23 => Option.bind (iter (x_laws_FnFold_f0 r7 r23) r7.from_) fun (y342 : Sum Unit Unit) => Sum.elim (fun _y343 => Option.bind (x_spec_MakeNum code 9) fun r347 => Option.bind (x_impl_Forget r7 r347) fun r350 => Option.bind (bif r350.2 then (Option.bind (x_impl_DocOk r350.1) fun r384 => some r384) else (some false)) fun c377 => Option.bind (bif c377 then (Option.bind (x_impl_HeadText r350.1) fun r406 => Option.bind (x_impl_SignsSame r406 r23) fun r413 => some r413) else (some false)) fun c388 => Option.bind (bif c388 then (Option.bind (x_impl_HeadRev r350.1) fun r431 => Option.bind (x_impl_HeadRev r7) fun r435 => some (decide (r431 = r435))) else (some false)) fun c419 => some c419) (fun _y344 => some false) y342)
theorem ct_laws_FnFold (w : World) (X S : Bs) (code : List UInt8) (s_code : Sv) (hS : ∀ b, S b → b < w.heap.size ∧ ¬ X b) (a_code_0 : (cSl 1 fY code).rd S w s_code.v) (oL : Sep [] X w) {r : Bool} (hx : x_laws_FnFold code = some r) :
  Ret Tryz.prog 3 [s_code.v] w (fun u w' => ∃ _ : Unit, u = (.bool r) ∧ Gives X S w [] [] w') := by
 unfold x_laws_FnFold at hx
 refine enter Tryz.func3 rfl Tryz.ntmps3 (by kernel_rfl) rfl ?_
 have hM := St.enter oL hS
 have hM := hM.addE (r := rV s_code.v (cSl 1 fY code)) a_code_0
 refine wc_sr ?_
 refine was rfl rfl ?_
 refine wl_sq ?_
 refine wc_seq ?_
 refine wc_sr ?_
 refine wmv rfl rfl ?_
 refine wv rfl (r_lenC Tryz.underlying22 rfl (hM.seeR (.head _))) ?_
 refine wv rfl (r_gtr rfl rfl) ?_
 refine wl_sq ?_
 refine wc_cond rfl (fun hc446 => ?_) (fun hc446 => ?_)
 ·
  replace hx := xif_t hc446 hx
  refine wc_sr ?_
  refine was rfl rfl ?_
  refine wl_sq ?_
  refine wc_ret ?_
  refine sq_ret ?_
  obtain rfl := Option.some.inj hx
  refine fin_ret [(.bool true)] ⟨rfl, trivial⟩ ?_
  replace hM := hM.t0
  have hM := hM.fewer rsN
  exact ⟨(), rfl, hM.gives⟩
 ·
  replace hx := xif_f hc446 hx
  refine wc_skip ?_
  refine sq_n ?_
  refine wc_sr ?_
  refine wmv rfl rfl ?_
  obtain ⟨r449, h450, hx⟩ := bind_some' hx
  refine w_call rfl rfl (hM.callO (l := []) fun X S oL hS hR hO => ct_spec_MakeDoc _ X S code s_code hS (hR _ (.head _)) oL h450) ?_
  rintro _ w451 ⟨⟨s452, s453, s454⟩, rfl, hM⟩
  dsimp only [List.cons_append, List.nil_append] at hM
  refine w_ex rfl (x_alloc sz27 hM ?_); intro b459 w458 hR460 hM
  dsimp only [Value.cells] at hM
  refine w_exu (x_stB #[(.string r449.name), (.int .i64 r449.from_), s452.v, s453.v, s454.v] sz27 rfl rfl rfl rfl rfl rfl hM ?_); intro w462 hM
  refine wl_sq ?_
  refine wc_sr ?_
  refine wv rfl (r_ldBS Tryz.underlying27 sz27 rfl (us := [(.string r449.name), (.int .i64 r449.from_), s452.v, s453.v, s454.v]) rfl hM (.head _) rfl) ?_
  obtain ⟨r465, h466, hx⟩ := bind_some' hx
  refine w_call rfl rfl (hM.callO (l := []) fun X S oL hS hR hO => ct_impl_HeadText _ X S r449 s452 s453 s454 hS (seeA hO (.tail _ (.head _))) (seeA hO (.tail _ (.tail _ (.head _)))) (seeA hO (.tail _ (.tail _ (.tail _ (.head _))))) oL h466) ?_
  rintro _ w467 ⟨s468, rfl, hM⟩
  dsimp only [List.cons_append, List.nil_append] at hM
  refine was rfl rfl ?_
  refine wl_sq ?_
  refine wc_seq ?_
  refine wc_sr ?_
  refine wv rfl (r_fld Tryz.underlying27 rfl rfl sz3 rfl) ?_
  refine wv rfl (r_ldB Tryz.underlying3 rfl rfl hM (.tail _ (.head _)) rfl) ?_
  refine was rfl rfl ?_
  refine wl_sq ?_
  refine wc_block ?_
  obtain ⟨y474, hx, hx475⟩ := bind_some' hx
  replace hM := hM.p4.p4.p4.p4
  obtain ⟨m479, hx⟩ := iter_run hx
  refine wc_loop (un fun (m477 : Nat) => fun (rev476 : Int) => [(0, s_code.v), (3, (.pointer (some ⟨b459, 0, none⟩))), (4, s468.v), (5, (.int .i64 rev476))]) (un fun (m477 : Nat) => fun (rev476 : Int) w' => St ⟨w, X, S⟩ [oBox b459 #[(.string r449.name), (.int .i64 r449.from_), s452.v, s453.v, s454.v] 27, oC (cSl 1 fI r449.text) s452.v, oC (cSl 3 fDEntry r449.list) s453.v, oC (cSl 3 fDSeen r449.seen) s454.v, oC (cSl 1 fI r465) s468.v] [rV s_code.v (cSl 1 fY code)] w' ∧ iterN _ m477 rev476 = some y474) (fun p => p.1) (m479, r449.from_) ⟨rfl, rfl, rfl, rfl, trivial⟩ ⟨hM, hx⟩ ?_
  rintro ⟨m477, rev476⟩ w480 ⟨hM, hx⟩
  obtain ⟨m481, z482, rfl, hx, hx483⟩ := iterN_step hx
  unfold x_laws_FnFold_f0 x_laws_FnFold_b0 at hx
  try dsimp only at hx
  refine wc_seq ?_
  refine wc_sr ?_
  refine wmv rfl rfl ?_
  refine wv rfl (r_ldBS Tryz.underlying27 sz27 rfl (us := [(.string r449.name), (.int .i64 r449.from_), s452.v, s453.v, s454.v]) rfl hM (.head _) rfl) ?_
  obtain ⟨r486, h487, hx⟩ := bind_some' hx
  refine w_call rfl rfl (hM.callV fun X S oL hS hR hO => ct_impl_HeadRev _ X S r449 s452 s453 s454 hS (seeA hO (.tail _ (.head _))) (seeA hO (.tail _ (.tail _ (.head _)))) (seeA hO (.tail _ (.tail _ (.tail _ (.head _))))) oL h487) ?_
  rintro _ w488 ⟨rfl, hR489⟩
  have hM := hM.call hR489
  refine wv rfl (r_leq rfl rfl) ?_
  refine wl_sq ?_
  refine wc_cond rfl (fun hc491 => ?_) (fun hc491 => ?_)
  ·
   replace hx := xif_t hc491 hx
   refine wc_skip ?_
   refine sq_n ?_
   refine wc_seq ?_
   refine wc_block ?_
   refine wc_sr ?_
   refine wv rfl (r_ldBS Tryz.underlying27 sz27 rfl (us := [(.string r449.name), (.int .i64 r449.from_), s452.v, s453.v, s454.v]) rfl hM (.head _) rfl) ?_
   refine wmv rfl rfl ?_
   obtain ⟨r494, h495, hx⟩ := bind_some' hx
   refine w_call rfl rfl (hM.callO (l := []) fun X S oL hS hR hO => ct_impl_TextAt _ X S r449 s452 s453 s454 rev476 hS (seeA hO (.tail _ (.head _))) (seeA hO (.tail _ (.tail _ (.head _)))) (seeA hO (.tail _ (.tail _ (.tail _ (.head _))))) oL h495) ?_
   rintro _ w496 ⟨s497, rfl, hM⟩
   dsimp only [List.cons_append, List.nil_append] at hM
   refine wmv rfl rfl ?_
   refine wv rfl (r_extract rfl rfl) ?_
   refine wv rfl (r_extract rfl rfl) ?_
   refine was rfl rfl ?_
   refine was rfl rfl ?_
   refine wl_sq ?_
   refine wc_sr ?_
   refine wv rfl (r_ldBS Tryz.underlying27 sz27 rfl (us := [(.string r449.name), (.int .i64 r449.from_), s452.v, s453.v, s454.v]) rfl hM (.tail _ (.head _)) rfl) ?_
   refine wmv rfl rfl ?_
   obtain ⟨r506, h507, hx⟩ := bind_some' hx
   refine w_call rfl rfl (hM.callO (l := []) fun X S oL hS hR hO => ct_impl_Fetch _ X S r449 s452 s453 s454 rev476 hS (seeA hO (.tail _ (.tail _ (.head _)))) (seeA hO (.tail _ (.tail _ (.tail _ (.head _))))) (seeA hO (.tail _ (.tail _ (.tail _ (.tail _ (.head _)))))) oL h507) ?_
   rintro _ w508 ⟨s509, rfl, hM⟩
   dsimp only [List.cons_append, List.nil_append] at hM
   refine wmv rfl rfl ?_
   refine wv rfl (r_extract rfl rfl) ?_
   refine wv rfl (r_extract rfl rfl) ?_
   refine was rfl rfl ?_
   refine was rfl rfl ?_
   refine wl_sq ?_
   refine wc_sr ?_
   refine wmv rfl rfl ?_
   refine wmv rfl rfl ?_
   obtain ⟨r518, h519, hx⟩ := bind_some' hx
   refine w_call rfl rfl (hM.callO (l := []) fun X S oL hS hR hO => ct_impl_Fold _ X S r494.1 s497 r506.1 s509 hS (seeA hO (.tail _ (.head _))) (seeA hO (.head _)) oL h519) ?_
   rintro _ w520 ⟨s521, rfl, hM⟩
   dsimp only [List.cons_append, List.nil_append] at hM
   refine wmv rfl rfl ?_
   refine wv rfl (r_extract rfl rfl) ?_
   refine wv rfl (r_extract rfl rfl) ?_
   refine was rfl rfl ?_
   refine was rfl rfl ?_
   refine wl_sq ?_
   refine wc_sr ?_
   refine wmv rfl rfl ?_
   obtain ⟨r529, h530, hx⟩ := bind_some' hx
   refine w_call rfl rfl (hM.callO (l := []) fun X S oL hS hR hO => ct_impl_Squash _ X S r506.1 s509 hS (seeA hO (.tail _ (.head _))) oL h530) ?_
   rintro _ w531 ⟨s532, rfl, hM⟩
   dsimp only [List.cons_append, List.nil_append] at hM
   refine wmv rfl rfl ?_
   refine wv rfl (r_extract rfl rfl) ?_
   refine wv rfl (r_extract rfl rfl) ?_
   refine was rfl rfl ?_
   refine was rfl rfl ?_
   refine wl_sq ?_
   refine wc_sr ?_
   refine wmv rfl rfl ?_
   refine wmv rfl rfl ?_
   obtain ⟨r541, h542, hx⟩ := bind_some' hx
   refine w_call rfl rfl (hM.callO (l := []) fun X S oL hS hR hO => ct_impl_Fold _ X S r494.1 s497 r529.1 s532 hS (seeA hO (.tail _ (.tail _ (.tail _ (.head _))))) (seeA hO (.head _)) oL h542) ?_
   rintro _ w543 ⟨s544, rfl, hM⟩
   dsimp only [List.cons_append, List.nil_append] at hM
   refine wmv rfl rfl ?_
   refine wv rfl (r_extract rfl rfl) ?_
   refine wv rfl (r_extract rfl rfl) ?_
   refine was rfl rfl ?_
   refine was rfl rfl ?_
   refine wl_sq ?_
   refine wc_sr ?_
   refine wmv rfl rfl ?_
   refine wv rfl (r_not rfl) ?_
   refine wmv rfl rfl ?_
   obtain ⟨c554, hx, hx558⟩ := bind_some' hx
   refine wl_mid 3 (fun _ : Unit => [(67, (.bool c554)), (0, s_code.v), (3, (.pointer (some ⟨b459, 0, none⟩))), (4, s468.v), (5, (.int .i64 rev476)), (8, s509.v), (10, s521.v), (11, (.bool r518.2)), (13, (.bool r529.2)), (14, s544.v), (15, (.bool r541.2))]) (fun _ w' => St ⟨w, X, S⟩ [oC (cSl 1 fI r541.1) s544.v, oC (cSl 3 fDEntry r529.1) s532.v, oC (cSl 1 fI r518.1) s521.v, oC (cSl 3 fDEntry r506.1) s509.v, oC (cSl 1 fI r494.1) s497.v, oBox b459 #[(.string r449.name), (.int .i64 r449.from_), s452.v, s453.v, s454.v] 27, oC (cSl 1 fI r449.text) s452.v, oC (cSl 3 fDEntry r449.list) s453.v, oC (cSl 3 fDSeen r449.seen) s454.v, oC (cSl 1 fI r465) s468.v] [rV s_code.v (cSl 1 fY code)] w') ?_ ?_
   ·
    rcases Bool.eq_false_or_eq_true (!r494.2) with hg555 | hg555
    ·
     replace hx := xif_t hg555 hx
     refine gs rfl (isB_no hg555) rfl ?_
     refine gs rfl (isB_no hg555) rfl ?_
     refine wv rfl (p_t rfl hg555 rfl) ?_
     obtain rfl := Option.some.inj hx
     exact mid_nil () ⟨rfl, rfl, rfl, rfl, rfl, rfl, rfl, rfl, rfl, rfl, rfl, trivial⟩ hM
    ·
     replace hx := xif_f hg555 hx
     refine gv rfl hg555 rfl (r_move rfl) ?_
     refine gv rfl hg555 rfl (r_neq rfl rfl) ?_
     refine wv rfl (p_f rfl hg555 rfl) ?_
     obtain rfl := Option.some.inj hx
     exact mid_nil () ⟨rfl, rfl, rfl, rfl, rfl, rfl, rfl, rfl, rfl, rfl, rfl, trivial⟩ hM
   rintro _ w561 hM
   replace hx := hx558
   refine wmv rfl rfl ?_
   obtain ⟨c563, hx, hx567⟩ := bind_some' hx
   refine wl_mid 3 (fun _ : Unit => [(71, (.bool c563)), (0, s_code.v), (3, (.pointer (some ⟨b459, 0, none⟩))), (4, s468.v), (5, (.int .i64 rev476)), (8, s509.v), (10, s521.v), (13, (.bool r529.2)), (14, s544.v), (15, (.bool r541.2))]) (fun _ w' => St ⟨w, X, S⟩ [oC (cSl 1 fI r541.1) s544.v, oC (cSl 3 fDEntry r529.1) s532.v, oC (cSl 1 fI r518.1) s521.v, oC (cSl 3 fDEntry r506.1) s509.v, oC (cSl 1 fI r494.1) s497.v, oBox b459 #[(.string r449.name), (.int .i64 r449.from_), s452.v, s453.v, s454.v] 27, oC (cSl 1 fI r449.text) s452.v, oC (cSl 3 fDEntry r449.list) s453.v, oC (cSl 3 fDSeen r449.seen) s454.v, oC (cSl 1 fI r465) s468.v] [rV s_code.v (cSl 1 fY code)] w') ?_ ?_
   ·
    rcases Bool.eq_false_or_eq_true c554 with hg564 | hg564
    ·
     replace hx := xif_t hg564 hx
     refine gs rfl (isB_no hg564) rfl ?_
     refine gs rfl (isB_no hg564) rfl ?_
     refine wv rfl (p_t rfl hg564 rfl) ?_
     obtain rfl := Option.some.inj hx
     exact mid_nil () ⟨rfl, rfl, rfl, rfl, rfl, rfl, rfl, rfl, rfl, rfl, trivial⟩ hM
    ·
     replace hx := xif_f hg564 hx
     refine gv rfl hg564 rfl (r_move rfl) ?_
     refine gv rfl hg564 rfl (r_not rfl) ?_
     refine wv rfl (p_f rfl hg564 rfl) ?_
     obtain rfl := Option.some.inj hx
     exact mid_nil () ⟨rfl, rfl, rfl, rfl, rfl, rfl, rfl, rfl, rfl, rfl, trivial⟩ hM
   rintro _ w570 hM
   replace hx := hx567
   refine wmv rfl rfl ?_
   obtain ⟨c572, hx, hx576⟩ := bind_some' hx
   refine wl_mid 3 (fun _ : Unit => [(75, (.bool c572)), (0, s_code.v), (3, (.pointer (some ⟨b459, 0, none⟩))), (4, s468.v), (5, (.int .i64 rev476)), (8, s509.v), (10, s521.v), (14, s544.v), (15, (.bool r541.2))]) (fun _ w' => St ⟨w, X, S⟩ [oC (cSl 1 fI r541.1) s544.v, oC (cSl 3 fDEntry r529.1) s532.v, oC (cSl 1 fI r518.1) s521.v, oC (cSl 3 fDEntry r506.1) s509.v, oC (cSl 1 fI r494.1) s497.v, oBox b459 #[(.string r449.name), (.int .i64 r449.from_), s452.v, s453.v, s454.v] 27, oC (cSl 1 fI r449.text) s452.v, oC (cSl 3 fDEntry r449.list) s453.v, oC (cSl 3 fDSeen r449.seen) s454.v, oC (cSl 1 fI r465) s468.v] [rV s_code.v (cSl 1 fY code)] w') ?_ ?_
   ·
    rcases Bool.eq_false_or_eq_true c563 with hg573 | hg573
    ·
     replace hx := xif_t hg573 hx
     refine gs rfl (isB_no hg573) rfl ?_
     refine gs rfl (isB_no hg573) rfl ?_
     refine wv rfl (p_t rfl hg573 rfl) ?_
     obtain rfl := Option.some.inj hx
     exact mid_nil () ⟨rfl, rfl, rfl, rfl, rfl, rfl, rfl, rfl, rfl, trivial⟩ hM
    ·
     replace hx := xif_f hg573 hx
     refine gv rfl hg573 rfl (r_move rfl) ?_
     refine gv rfl hg573 rfl (r_not rfl) ?_
     refine wv rfl (p_f rfl hg573 rfl) ?_
     obtain rfl := Option.some.inj hx
     exact mid_nil () ⟨rfl, rfl, rfl, rfl, rfl, rfl, rfl, rfl, rfl, trivial⟩ hM
   rintro _ w579 hM
   replace hx := hx576
   refine wmv rfl rfl ?_
   obtain ⟨c581, hx, hx585⟩ := bind_some' hx
   refine wl_mid 3 (fun _ : Unit => [(79, (.bool c581)), (0, s_code.v), (3, (.pointer (some ⟨b459, 0, none⟩))), (4, s468.v), (5, (.int .i64 rev476)), (8, s509.v), (10, s521.v), (14, s544.v)]) (fun _ w' => St ⟨w, X, S⟩ [oC (cSl 1 fI r541.1) s544.v, oC (cSl 3 fDEntry r529.1) s532.v, oC (cSl 1 fI r518.1) s521.v, oC (cSl 3 fDEntry r506.1) s509.v, oC (cSl 1 fI r494.1) s497.v, oBox b459 #[(.string r449.name), (.int .i64 r449.from_), s452.v, s453.v, s454.v] 27, oC (cSl 1 fI r449.text) s452.v, oC (cSl 3 fDEntry r449.list) s453.v, oC (cSl 3 fDSeen r449.seen) s454.v, oC (cSl 1 fI r465) s468.v] [rV s_code.v (cSl 1 fY code)] w') ?_ ?_
   ·
    rcases Bool.eq_false_or_eq_true c572 with hg582 | hg582
    ·
     replace hx := xif_t hg582 hx
     refine gs rfl (isB_no hg582) rfl ?_
     refine gs rfl (isB_no hg582) rfl ?_
     refine wv rfl (p_t rfl hg582 rfl) ?_
     obtain rfl := Option.some.inj hx
     exact mid_nil () ⟨rfl, rfl, rfl, rfl, rfl, rfl, rfl, rfl, trivial⟩ hM
    ·
     replace hx := xif_f hg582 hx
     refine gv rfl hg582 rfl (r_move rfl) ?_
     refine gv rfl hg582 rfl (r_not rfl) ?_
     refine wv rfl (p_f rfl hg582 rfl) ?_
     obtain rfl := Option.some.inj hx
     exact mid_nil () ⟨rfl, rfl, rfl, rfl, rfl, rfl, rfl, rfl, trivial⟩ hM
   rintro _ w588 hM
   replace hx := hx585
   refine wmv rfl rfl ?_
   obtain ⟨c590, hx, hx599⟩ := bind_some' hx
   refine wl_mid 5 (fun _ : Unit => [(85, (.bool c590)), (0, s_code.v), (3, (.pointer (some ⟨b459, 0, none⟩))), (4, s468.v), (5, (.int .i64 rev476)), (8, s509.v), (14, s544.v)]) (fun _ w' => St ⟨w, X, S⟩ [oC (cSl 1 fI r541.1) s544.v, oC (cSl 3 fDEntry r529.1) s532.v, oC (cSl 1 fI r518.1) s521.v, oC (cSl 3 fDEntry r506.1) s509.v, oC (cSl 1 fI r494.1) s497.v, oBox b459 #[(.string r449.name), (.int .i64 r449.from_), s452.v, s453.v, s454.v] 27, oC (cSl 1 fI r449.text) s452.v, oC (cSl 3 fDEntry r449.list) s453.v, oC (cSl 3 fDSeen r449.seen) s454.v, oC (cSl 1 fI r465) s468.v] [rV s_code.v (cSl 1 fY code)] w') ?_ ?_
   ·
    rcases Bool.eq_false_or_eq_true c581 with hg591 | hg591
    ·
     replace hx := xif_t hg591 hx
     refine gs rfl (isB_no hg591) rfl ?_
     refine gs rfl (isB_no hg591) rfl ?_
     refine gs rfl (isB_no hg591) rfl ?_
     refine gs rfl (isB_no hg591) rfl ?_
     refine wv rfl (p_t rfl hg591 rfl) ?_
     obtain rfl := Option.some.inj hx
     exact mid_nil () ⟨rfl, rfl, rfl, rfl, rfl, rfl, rfl, trivial⟩ hM
    ·
     replace hx := xif_f hg591 hx
     refine gv rfl hg591 rfl (r_move rfl) ?_
     refine gv rfl hg591 rfl (r_move rfl) ?_
     obtain ⟨r602, h603, hx⟩ := bind_some' hx
     refine gc rfl hg591 rfl rfl (hM.callV fun X S oL hS hR hO => ct_impl_SignsSame _ X S r518.1 s521 r465 s468 hS (seeA hO (.tail _ (.tail _ (.head _)))) (seeA hO (.tail _ (.tail _ (.tail _ (.tail _ (.tail _ (.tail _ (.tail _ (.tail _ (.tail _ (.head _))))))))))) oL h603) ?_
     rintro _ w604 ⟨rfl, hR605⟩
     have hM := hM.call hR605
     refine gv rfl hg591 rfl (r_not rfl) ?_
     refine wv rfl (p_f rfl hg591 rfl) ?_
     obtain rfl := Option.some.inj hx
     exact mid_nil () ⟨rfl, rfl, rfl, rfl, rfl, rfl, rfl, trivial⟩ hM
   rintro _ w607 hM
   replace hx := hx599
   refine wmv rfl rfl ?_
   obtain ⟨c609, hx, hx618⟩ := bind_some' hx
   refine wl_mid 5 (fun _ : Unit => [(91, (.bool c609)), (0, s_code.v), (3, (.pointer (some ⟨b459, 0, none⟩))), (4, s468.v), (5, (.int .i64 rev476)), (8, s509.v)]) (fun _ w' => St ⟨w, X, S⟩ [oC (cSl 1 fI r541.1) s544.v, oC (cSl 3 fDEntry r529.1) s532.v, oC (cSl 1 fI r518.1) s521.v, oC (cSl 3 fDEntry r506.1) s509.v, oC (cSl 1 fI r494.1) s497.v, oBox b459 #[(.string r449.name), (.int .i64 r449.from_), s452.v, s453.v, s454.v] 27, oC (cSl 1 fI r449.text) s452.v, oC (cSl 3 fDEntry r449.list) s453.v, oC (cSl 3 fDSeen r449.seen) s454.v, oC (cSl 1 fI r465) s468.v] [rV s_code.v (cSl 1 fY code)] w') ?_ ?_
   ·
    rcases Bool.eq_false_or_eq_true c590 with hg610 | hg610
    ·
     replace hx := xif_t hg610 hx
     refine gs rfl (isB_no hg610) rfl ?_
     refine gs rfl (isB_no hg610) rfl ?_
     refine gs rfl (isB_no hg610) rfl ?_
     refine gs rfl (isB_no hg610) rfl ?_
     refine wv rfl (p_t rfl hg610 rfl) ?_
     obtain rfl := Option.some.inj hx
     exact mid_nil () ⟨rfl, rfl, rfl, rfl, rfl, rfl, trivial⟩ hM
    ·
     replace hx := xif_f hg610 hx
     refine gv rfl hg610 rfl (r_move rfl) ?_
     refine gv rfl hg610 rfl (r_move rfl) ?_
     obtain ⟨r621, h622, hx⟩ := bind_some' hx
     refine gc rfl hg610 rfl rfl (hM.callV fun X S oL hS hR hO => ct_impl_SignsSame _ X S r541.1 s544 r465 s468 hS (seeA hO (.head _)) (seeA hO (.tail _ (.tail _ (.tail _ (.tail _ (.tail _ (.tail _ (.tail _ (.tail _ (.tail _ (.head _))))))))))) oL h622) ?_
     rintro _ w623 ⟨rfl, hR624⟩
     have hM := hM.call hR624
     refine gv rfl hg610 rfl (r_not rfl) ?_
     refine wv rfl (p_f rfl hg610 rfl) ?_
     obtain rfl := Option.some.inj hx
     exact mid_nil () ⟨rfl, rfl, rfl, rfl, rfl, rfl, trivial⟩ hM
   rintro _ w626 hM
   replace hx := hx618
   refine wmv rfl rfl ?_
   obtain ⟨c628, hx, hx638⟩ := bind_some' hx
   refine wl_mid 6 (fun _ : Unit => [(98, (.bool c628)), (0, s_code.v), (3, (.pointer (some ⟨b459, 0, none⟩))), (4, s468.v), (5, (.int .i64 rev476))]) (fun _ w' => St ⟨w, X, S⟩ [oC (cSl 1 fI r541.1) s544.v, oC (cSl 3 fDEntry r529.1) s532.v, oC (cSl 1 fI r518.1) s521.v, oC (cSl 3 fDEntry r506.1) s509.v, oC (cSl 1 fI r494.1) s497.v, oBox b459 #[(.string r449.name), (.int .i64 r449.from_), s452.v, s453.v, s454.v] 27, oC (cSl 1 fI r449.text) s452.v, oC (cSl 3 fDEntry r449.list) s453.v, oC (cSl 3 fDSeen r449.seen) s454.v, oC (cSl 1 fI r465) s468.v] [rV s_code.v (cSl 1 fY code)] w') ?_ ?_
   ·
    rcases Bool.eq_false_or_eq_true c609 with hg629 | hg629
    ·
     replace hx := xif_t hg629 hx
     refine gs rfl (isB_no hg629) rfl ?_
     refine gs rfl (isB_no hg629) rfl ?_
     refine gs rfl (isB_no hg629) rfl ?_
     refine gs rfl (isB_no hg629) rfl ?_
     refine gs rfl (isB_no hg629) rfl ?_
     refine wv rfl (p_t rfl hg629 rfl) ?_
     obtain rfl := Option.some.inj hx
     exact mid_nil () ⟨rfl, rfl, rfl, rfl, rfl, trivial⟩ hM
    ·
     replace hx := xif_f hg629 hx
     refine gv rfl hg629 rfl (r_ldBS Tryz.underlying27 sz27 rfl (us := [(.string r449.name), (.int .i64 r449.from_), s452.v, s453.v, s454.v]) rfl hM (.tail _ (.tail _ (.tail _ (.tail _ (.tail _ (.head _)))))) rfl) ?_
     refine gv rfl hg629 rfl (r_move rfl) ?_
     refine gv rfl hg629 rfl (r_move rfl) ?_
     obtain ⟨r642, h643, hx⟩ := bind_some' hx
     refine gc rfl hg629 rfl rfl (hM.callV fun X S oL hS hR hO => ct_impl_Tells _ X S r449 s452 s453 s454 rev476 r506.1 s509 hS (seeA hO (.tail _ (.tail _ (.tail _ (.tail _ (.tail _ (.tail _ (.head _)))))))) (seeA hO (.tail _ (.tail _ (.tail _ (.tail _ (.tail _ (.tail _ (.tail _ (.head _))))))))) (seeA hO (.tail _ (.tail _ (.tail _ (.tail _ (.tail _ (.tail _ (.tail _ (.tail _ (.head _)))))))))) (seeA hO (.tail _ (.tail _ (.tail _ (.head _))))) oL h643) ?_
     rintro _ w644 ⟨rfl, hR645⟩
     have hM := hM.call hR645
     refine gv rfl hg629 rfl (r_not rfl) ?_
     refine wv rfl (p_f rfl hg629 rfl) ?_
     obtain rfl := Option.some.inj hx
     exact mid_nil () ⟨rfl, rfl, rfl, rfl, rfl, trivial⟩ hM
   rintro _ w647 hM
   replace hx := hx638
   refine wl_sq ?_
   refine wc_cond rfl (fun hc648 => ?_) (fun hc648 => ?_)
   ·
    replace hx := xif_t hc648 hx
    refine wc_sr ?_
    refine was rfl rfl ?_
    refine wl_sq ?_
    refine wc_ret ?_
    refine bk_ret ?_
    refine sq_ret ?_
    refine lp1_ret ?_
    obtain rfl := Option.some.inj hx
    obtain rfl := Option.some.inj hx483
    replace hx := hx475
    try dsimp only [Sum.elim_inl, Sum.elim_inr] at hx
    refine bk_ret ?_
    refine sq_ret ?_
    obtain rfl := Option.some.inj hx
    refine fin_ret [(.bool false)] ⟨rfl, trivial⟩ ?_
    replace hM := hM.t0
    have hM := hM.fewer rsN
    exact ⟨(), rfl, hM.gives⟩
   ·
    replace hx := xif_f hc648 hx
    refine wc_skip ?_
    refine bk_n ?_
    refine sq_n ?_
    refine wc_region ?_
    refine wmv rfl rfl ?_
    obtain ⟨hg652, hx⟩ := xg_some hx
    refine wv rfl (r_add rfl rfl hg652) ?_
    refine was rfl rfl ?_
    refine wl_nil ?_
    obtain rfl := Option.some.inj hx
    replace hM := hM.p9.p9.p9.p9.p9
    replace hM := hM.t5
    exact lp_end (m481, rev476 + 1) (Nat.lt_succ_self _) ⟨rfl, rfl, rfl, rfl, trivial⟩ ⟨hM, hx483⟩
  ·
   replace hx := xif_f hc491 hx
   refine wc_exit ?_
   refine sq_exit ?_
   refine lp1_exit ?_
   obtain rfl := Option.some.inj hx
   obtain rfl := Option.some.inj hx483
   replace hx := hx475
   try dsimp only [Sum.elim_inl, Sum.elim_inr] at hx
   refine bk_here ?_
   refine sq_n ?_
   refine wc_seq ?_
   obtain ⟨r656, h657, hx⟩ := bind_some' hx
   obtain ⟨r659, h660, hx⟩ := bind_some' hx
   refine wc_mid (un fun (b674 : Nat) => un fun (s662 : Sv) => un fun (s663 : Sv) => fun (s664 : Sv) => [(3, (.pointer (some ⟨b459, 0, none⟩))), (4, s468.v), (16, (.pointer (some ⟨b674, 0, none⟩))), (17, (.bool r659.2))]) (un fun (b674 : Nat) => un fun (s662 : Sv) => un fun (s663 : Sv) => fun (s664 : Sv) w' => St ⟨w, X, S⟩ [oBox b459 #[(.string r449.name), (.int .i64 r449.from_), s452.v, s453.v, s454.v] 27, oC (cSl 1 fI r449.text) s452.v, oC (cSl 3 fDEntry r449.list) s453.v, oC (cSl 3 fDSeen r449.seen) s454.v, oC (cSl 1 fI r465) s468.v, oBox b674 #[(.string r659.1.name), (.int .i64 r659.1.from_), s662.v, s663.v, s664.v] 27, oC (cSl 1 fI r659.1.text) s662.v, oC (cSl 3 fDEntry r659.1.list) s663.v, oC (cSl 3 fDSeen r659.1.seen) s664.v] [] w') ?_ ?_
   ·
    refine wc_drawM (fun _ => True) Tryz_mixed ?_
    refine wm_run [(0, 0), (1, 0), (2, 0)] 7 (fun _ _ => trivial) rfl rfl (by kernel_rfl) (by kernel_rfl) rfl ?_
    refine ov rfl (fun w' h' => r_ldBS Tryz.underlying27 sz27 rfl (us := [(.string r449.name), (.int .i64 r449.from_), s452.v, s453.v, s454.v]) rfl (hM.call h') (.head _) rfl) ?_
    refine omv rfl rfl ?_
    refine oc rfl rfl (fun w' h' => (hM.call h').callV fun X S oL hS hR hO => ct_spec_MakeNum _ X S code s_code (9 : Int) hS (hR _ (.head _)) oL h657) ?_
    refine o_nilM hM fun w687 hM => ?_
    refine wm_fork [(3, 1), (7, 0)] 6 (fun _ _ => trivial) rfl (by kernel_rfl) rfl (by kernel_rfl) ⟨?_, ?_, trivial⟩
    ·
     refine o_call rfl rfl (fun w' h' => (hM.call h').callO (l := []) fun X S oL hS hR hO => ct_impl_Forget _ X S r449 s452 s453 s454 r656 hS (seeA hO (.tail _ (.head _))) (seeA hO (.tail _ (.tail _ (.head _)))) (seeA hO (.tail _ (.tail _ (.tail _ (.head _))))) oL h660) ?_
     rintro w693 h694 _ w689 ⟨⟨s690, s691, s692⟩, rfl, hM⟩
     dsimp only [List.cons_append, List.nil_append] at hM
     refine o_nilM hM fun w698 hM => ?_
     refine wm_run [(4, 0), (5, 0)] 4 (fun _ _ => trivial) rfl rfl (by kernel_rfl) (by kernel_rfl) rfl ?_
     refine omv rfl rfl ?_
     refine ov rfl (fun w' h' => r_extract rfl rfl) ?_
     refine o_nilM hM fun w702 hM => ?_
     refine wm_fork [(6, 0), (7, 0)] 3 (fun _ _ => trivial) rfl (by kernel_rfl) rfl (by kernel_rfl) ⟨?_, ?_, trivial⟩
     ·
      refine o_ex1 rfl fun w705 h706 => ?_
      have hM := hM.call h706
      refine exq (r_extract rfl rfl) ?_
      refine ⟨Rel.refl _, ?_⟩
      refine o_nilM hM fun w707 hM => ?_
      refine wm_run [(7, 1)] 2 (fun _ _ => trivial) rfl rfl (by kernel_rfl) (by kernel_rfl) rfl ?_
      refine o_ex1 rfl fun w712 h713 => ?_
      have hM := hM.call h713
      refine x_alloc sz27 hM ?_; intro b710 w709 hR711 hM
      refine ⟨hR711, ?_⟩
      dsimp only [Value.cells] at hM
      refine o_nilM hM fun w715 hM => ?_
      refine wm_run [(8, 2), (9, 0)] 0 (fun _ _ => trivial) rfl rfl (by kernel_rfl) (by kernel_rfl) rfl ?_
      refine o_exu fun w719 h720 => ?_
      have hM := hM.call h720
      refine x_stB #[(.string r659.1.name), (.int .i64 r659.1.from_), s690.v, s691.v, s692.v] sz27 rfl rfl rfl rfl rfl rfl hM ?_; intro w717 hM
      refine ov rfl (fun w' h' => r_assign rfl) ?_
      refine o_nilM hM fun w722 hM => ?_
      refine wm_end (fun _ _ => trivial) (by kernel_rfl) fun w724 hw725 => ?_
      have hM := hM.call hw725
      replace hM := hM.p3.p3.p3.p3.p8.p8.p8.p8.p8
      have hM := hM.fewer rsN
      replace hM : St ⟨w, X, S⟩ [oBox b459 #[(.string r449.name), (.int .i64 r449.from_), s452.v, s453.v, s454.v] 27, oC (cSl 1 fI r449.text) s452.v, oC (cSl 3 fDEntry r449.list) s453.v, oC (cSl 3 fDSeen r449.seen) s454.v, oC (cSl 1 fI r465) s468.v, oBox b710 #[(.string r659.1.name), (.int .i64 r659.1.from_), s690.v, s691.v, s692.v] 27, oC (cSl 1 fI r659.1.text) s690.v, oC (cSl 3 fDEntry r659.1.list) s691.v, oC (cSl 3 fDSeen r659.1.seen) s692.v] [] _ := hM
      exact mid_c (b710, s690, s691, s692) ⟨rfl, rfl, rfl, rfl, trivial⟩ hM
     ·
      refine o_ex1 rfl fun w729 h730 => ?_
      have hM := hM.call h730
      refine x_alloc sz27 hM ?_; intro b727 w726 hR728 hM
      refine ⟨hR728, ?_⟩
      dsimp only [Value.cells] at hM
      refine o_nilM hM fun w732 hM => ?_
      refine wm_fork [(6, 0), (8, 1)] 2 (fun _ _ => trivial) rfl (by kernel_rfl) rfl (by kernel_rfl) ⟨?_, ?_, trivial⟩
      ·
       refine o_ex1 rfl fun w735 h736 => ?_
       have hM := hM.call h736
       refine exq (r_extract rfl rfl) ?_
       refine ⟨Rel.refl _, ?_⟩
       refine o_nilM hM fun w737 hM => ?_
       refine wm_run [(8, 2), (9, 0)] 0 (fun _ _ => trivial) rfl rfl (by kernel_rfl) (by kernel_rfl) rfl ?_
       refine o_exu fun w741 h742 => ?_
       have hM := hM.call h742
       refine x_stB #[(.string r659.1.name), (.int .i64 r659.1.from_), s690.v, s691.v, s692.v] sz27 rfl rfl rfl rfl rfl rfl hM ?_; intro w739 hM
       refine ov rfl (fun w' h' => r_assign rfl) ?_
       refine o_nilM hM fun w744 hM => ?_
       refine wm_end (fun _ _ => trivial) (by kernel_rfl) fun w746 hw747 => ?_
       have hM := hM.call hw747
       replace hM := hM.p3.p3.p3.p3.p8.p8.p8.p8.p8
       have hM := hM.fewer rsN
       replace hM : St ⟨w, X, S⟩ [oBox b459 #[(.string r449.name), (.int .i64 r449.from_), s452.v, s453.v, s454.v] 27, oC (cSl 1 fI r449.text) s452.v, oC (cSl 3 fDEntry r449.list) s453.v, oC (cSl 3 fDSeen r449.seen) s454.v, oC (cSl 1 fI r465) s468.v, oBox b727 #[(.string r659.1.name), (.int .i64 r659.1.from_), s690.v, s691.v, s692.v] 27, oC (cSl 1 fI r659.1.text) s690.v, oC (cSl 3 fDEntry r659.1.list) s691.v, oC (cSl 3 fDSeen r659.1.seen) s692.v] [] _ := hM
       exact mid_c (b727, s690, s691, s692) ⟨rfl, rfl, rfl, rfl, trivial⟩ hM
      ·
       refine o_exu fun w750 h751 => ?_
       have hM := hM.call h751
       refine x_stB #[(.string r659.1.name), (.int .i64 r659.1.from_), s690.v, s691.v, s692.v] sz27 rfl rfl rfl rfl rfl rfl hM ?_; intro w748 hM
       refine o_nilM hM fun w752 hM => ?_
       refine wm_run [(6, 1), (9, 0)] 0 (fun _ _ => trivial) rfl rfl (by kernel_rfl) (by kernel_rfl) rfl ?_
       refine o_ex1 rfl fun w755 h756 => ?_
       have hM := hM.call h756
       refine exq (r_extract rfl rfl) ?_
       refine ⟨Rel.refl _, ?_⟩
       refine ov rfl (fun w' h' => r_assign rfl) ?_
       refine o_nilM hM fun w758 hM => ?_
       refine wm_end (fun _ _ => trivial) (by kernel_rfl) fun w760 hw761 => ?_
       have hM := hM.call hw761
       replace hM := hM.p3.p3.p3.p3.p8.p8.p8.p8.p8
       have hM := hM.fewer rsN
       replace hM : St ⟨w, X, S⟩ [oBox b459 #[(.string r449.name), (.int .i64 r449.from_), s452.v, s453.v, s454.v] 27, oC (cSl 1 fI r449.text) s452.v, oC (cSl 3 fDEntry r449.list) s453.v, oC (cSl 3 fDSeen r449.seen) s454.v, oC (cSl 1 fI r465) s468.v, oBox b727 #[(.string r659.1.name), (.int .i64 r659.1.from_), s690.v, s691.v, s692.v] 27, oC (cSl 1 fI r659.1.text) s690.v, oC (cSl 3 fDEntry r659.1.list) s691.v, oC (cSl 3 fDSeen r659.1.seen) s692.v] [] _ := hM
       exact mid_c (b727, s690, s691, s692) ⟨rfl, rfl, rfl, rfl, trivial⟩ hM
    ·
     refine o_ex1 rfl fun w765 h766 => ?_
     have hM := hM.call h766
     refine x_alloc sz27 hM ?_; intro b763 w762 hR764 hM
     refine ⟨hR764, ?_⟩
     dsimp only [Value.cells] at hM
     refine o_nilM hM fun w768 hM => ?_
     refine wm_run [(3, 2), (4, 0), (5, 0)] 3 (fun _ _ => trivial) rfl rfl (by kernel_rfl) (by kernel_rfl) rfl ?_
     refine o_call rfl rfl (fun w' h' => (hM.call h').callO (l := []) fun X S oL hS hR hO => ct_impl_Forget _ X S r449 s452 s453 s454 r656 hS (seeA hO (.tail _ (.tail _ (.head _)))) (seeA hO (.tail _ (.tail _ (.tail _ (.head _))))) (seeA hO (.tail _ (.tail _ (.tail _ (.tail _ (.head _)))))) oL h660) ?_
     rintro w774 h775 _ w770 ⟨⟨s771, s772, s773⟩, rfl, hM⟩
     dsimp only [List.cons_append, List.nil_append] at hM
     refine omv rfl rfl ?_
     refine ov rfl (fun w' h' => r_extract rfl rfl) ?_
     refine o_nilM hM fun w781 hM => ?_
     refine wm_fork [(6, 0), (8, 1)] 2 (fun _ _ => trivial) rfl (by kernel_rfl) rfl (by kernel_rfl) ⟨?_, ?_, trivial⟩
     ·
      refine o_ex1 rfl fun w784 h785 => ?_
      have hM := hM.call h785
      refine exq (r_extract rfl rfl) ?_
      refine ⟨Rel.refl _, ?_⟩
      refine o_nilM hM fun w786 hM => ?_
      refine wm_run [(8, 2), (9, 0)] 0 (fun _ _ => trivial) rfl rfl (by kernel_rfl) (by kernel_rfl) rfl ?_
      replace hM := hM.p3
      refine o_exu fun w790 h791 => ?_
      have hM := hM.call h791
      refine x_stB #[(.string r659.1.name), (.int .i64 r659.1.from_), s771.v, s772.v, s773.v] sz27 rfl rfl rfl rfl rfl rfl hM ?_; intro w788 hM
      refine ov rfl (fun w' h' => r_assign rfl) ?_
      refine o_nilM hM fun w793 hM => ?_
      refine wm_end (fun _ _ => trivial) (by kernel_rfl) fun w795 hw796 => ?_
      have hM := hM.call hw796
      replace hM := hM.p3.p3.p3.p3.p8.p8.p8.p8.p8
      have hM := hM.fewer rsN
      replace hM : St ⟨w, X, S⟩ [oBox b459 #[(.string r449.name), (.int .i64 r449.from_), s452.v, s453.v, s454.v] 27, oC (cSl 1 fI r449.text) s452.v, oC (cSl 3 fDEntry r449.list) s453.v, oC (cSl 3 fDSeen r449.seen) s454.v, oC (cSl 1 fI r465) s468.v, oBox b763 #[(.string r659.1.name), (.int .i64 r659.1.from_), s771.v, s772.v, s773.v] 27, oC (cSl 1 fI r659.1.text) s771.v, oC (cSl 3 fDEntry r659.1.list) s772.v, oC (cSl 3 fDSeen r659.1.seen) s773.v] [] _ := hM
      exact mid_c (b763, s771, s772, s773) ⟨rfl, rfl, rfl, rfl, trivial⟩ hM
     ·
      replace hM := hM.p3
      refine o_exu fun w799 h800 => ?_
      have hM := hM.call h800
      refine x_stB #[(.string r659.1.name), (.int .i64 r659.1.from_), s771.v, s772.v, s773.v] sz27 rfl rfl rfl rfl rfl rfl hM ?_; intro w797 hM
      refine o_nilM hM fun w801 hM => ?_
      refine wm_run [(6, 1), (9, 0)] 0 (fun _ _ => trivial) rfl rfl (by kernel_rfl) (by kernel_rfl) rfl ?_
      refine o_ex1 rfl fun w804 h805 => ?_
      have hM := hM.call h805
      refine exq (r_extract rfl rfl) ?_
      refine ⟨Rel.refl _, ?_⟩
      refine ov rfl (fun w' h' => r_assign rfl) ?_
      refine o_nilM hM fun w807 hM => ?_
      refine wm_end (fun _ _ => trivial) (by kernel_rfl) fun w809 hw810 => ?_
      have hM := hM.call hw810
      replace hM := hM.p3.p3.p3.p3.p8.p8.p8.p8.p8
      have hM := hM.fewer rsN
      replace hM : St ⟨w, X, S⟩ [oBox b459 #[(.string r449.name), (.int .i64 r449.from_), s452.v, s453.v, s454.v] 27, oC (cSl 1 fI r449.text) s452.v, oC (cSl 3 fDEntry r449.list) s453.v, oC (cSl 3 fDSeen r449.seen) s454.v, oC (cSl 1 fI r465) s468.v, oBox b763 #[(.string r659.1.name), (.int .i64 r659.1.from_), s771.v, s772.v, s773.v] 27, oC (cSl 1 fI r659.1.text) s771.v, oC (cSl 3 fDEntry r659.1.list) s772.v, oC (cSl 3 fDSeen r659.1.seen) s773.v] [] _ := hM
      exact mid_c (b763, s771, s772, s773) ⟨rfl, rfl, rfl, rfl, trivial⟩ hM
   rintro ⟨b674, s662, s663, s664⟩ w811 hM
   refine sq_n ?_
   refine wc_seq ?_
   refine wc_draw [(0, 0), (1, 0), (2, 0), (3, 0), (4, 0), (5, 0), (6, 0), (8, 0), (7, 2), (9, 0), (10, 0), (11, 0), (12, 0), (13, 0), (14, 0), (15, 0), (16, 0), (17, 0), (18, 0)] Tryz_mixed (by kernel_rfl) rfl (by kernel_rfl) rfl ?_
   refine omv rfl rfl ?_
   refine omv rfl rfl ?_
   obtain ⟨c814, hx, hx820⟩ := bind_some' hx
   refine wo_mid 3 [(110, (.bool c814)), (3, (.pointer (some ⟨b459, 0, none⟩))), (4, s468.v), (16, (.pointer (some ⟨b674, 0, none⟩)))] rfl ?_ ?_
   ·
    rcases Bool.eq_false_or_eq_true r659.2 with hg815 | hg815
    ·
     replace hx := xif_t hg815 hx
     refine ogv rfl hg815 rfl (fun w' h' => r_ldBS Tryz.underlying27 sz27 rfl (us := [(.string r659.1.name), (.int .i64 r659.1.from_), s662.v, s663.v, s664.v]) rfl (hM.call h') (.tail _ (.tail _ (.tail _ (.tail _ (.tail _ (.head _)))))) rfl) ?_
     obtain ⟨r822, h823, hx⟩ := bind_some' hx
     refine ogc rfl hg815 rfl rfl (fun w' h' => (hM.call h').callV fun X S oL hS hR hO => ct_impl_DocOk _ X S r659.1 s662 s663 s664 hS (seeA hO (.tail _ (.tail _ (.tail _ (.tail _ (.tail _ (.tail _ (.head _)))))))) (seeA hO (.tail _ (.tail _ (.tail _ (.tail _ (.tail _ (.tail _ (.tail _ (.head _))))))))) (seeA hO (.tail _ (.tail _ (.tail _ (.tail _ (.tail _ (.tail _ (.tail _ (.tail _ (.head _)))))))))) oL h823) ?_
     refine ov rfl (fun w' h' => p_t rfl hg815 rfl) ?_
     obtain rfl := Option.some.inj hx
     exact mid_onil ⟨rfl, rfl, rfl, rfl, trivial⟩
    ·
     replace hx := xif_f hg815 hx
     refine ogs rfl (isB_no hg815) rfl ?_
     refine ogs rfl (isB_no hg815) rfl ?_
     refine ov rfl (fun w' h' => p_f rfl hg815 rfl) ?_
     obtain rfl := Option.some.inj hx
     exact mid_onil ⟨rfl, rfl, rfl, rfl, trivial⟩
   replace hx := hx820
   refine omv rfl rfl ?_
   obtain ⟨c826, hx, hx842⟩ := bind_some' hx
   refine wo_midM 5 (fun _ : Unit => [(116, (.bool c826)), (3, (.pointer (some ⟨b459, 0, none⟩))), (16, (.pointer (some ⟨b674, 0, none⟩)))]) (fun _ w' => St ⟨w, X, S⟩ [oBox b459 #[(.string r449.name), (.int .i64 r449.from_), s452.v, s453.v, s454.v] 27, oC (cSl 1 fI r449.text) s452.v, oC (cSl 3 fDEntry r449.list) s453.v, oC (cSl 3 fDSeen r449.seen) s454.v, oC (cSl 1 fI r465) s468.v, oBox b674 #[(.string r659.1.name), (.int .i64 r659.1.from_), s662.v, s663.v, s664.v] 27, oC (cSl 1 fI r659.1.text) s662.v, oC (cSl 3 fDEntry r659.1.list) s663.v, oC (cSl 3 fDSeen r659.1.seen) s664.v] [] w') ?_ ?_
   ·
    rcases Bool.eq_false_or_eq_true c814 with hg827 | hg827
    ·
     replace hx := xif_t hg827 hx
     refine ogv rfl hg827 rfl (fun w' h' => r_ldBS Tryz.underlying27 sz27 rfl (us := [(.string r659.1.name), (.int .i64 r659.1.from_), s662.v, s663.v, s664.v]) rfl (hM.call h') (.tail _ (.tail _ (.tail _ (.tail _ (.tail _ (.head _)))))) rfl) ?_
     refine ogv rfl hg827 rfl (fun w' h' => r_move rfl) ?_
     obtain ⟨r845, h846, hx⟩ := bind_some' hx
     refine og_call rfl hg827 rfl rfl (fun w' h' => (hM.call h').callO (l := []) fun X S oL hS hR hO => ct_impl_HeadText _ X S r659.1 s662 s663 s664 hS (seeA hO (.tail _ (.tail _ (.tail _ (.tail _ (.tail _ (.tail _ (.head _)))))))) (seeA hO (.tail _ (.tail _ (.tail _ (.tail _ (.tail _ (.tail _ (.tail _ (.head _))))))))) (seeA hO (.tail _ (.tail _ (.tail _ (.tail _ (.tail _ (.tail _ (.tail _ (.tail _ (.head _)))))))))) oL h846) ?_
     rintro w849 h850 _ w847 ⟨s848, rfl, hM⟩
     dsimp only [List.cons_append, List.nil_append] at hM
     obtain ⟨r852, h853, hx⟩ := bind_some' hx
     refine ogc rfl hg827 rfl rfl (fun w' h' => (hM.call h').callV fun X S oL hS hR hO => ct_impl_SignsSame _ X S r845 s848 r465 s468 hS (seeA hO (.head _)) (seeA hO (.tail _ (.tail _ (.tail _ (.tail _ (.tail _ (.head _))))))) oL h853) ?_
     refine ov rfl (fun w' h' => p_t rfl hg827 rfl) ?_
     obtain rfl := Option.some.inj hx
     replace hM := hM.p9.p9.p9.p9.p9.p9.p9.p9.p9
     replace hM := hM.t9
     exact mid_onilM () ⟨rfl, rfl, rfl, trivial⟩ fun w' h' => hM.call h'
    ·
     replace hx := xif_f hg827 hx
     refine ogs rfl (isB_no hg827) rfl ?_
     refine ogs rfl (isB_no hg827) rfl ?_
     refine ogs1 rfl (isB_no hg827) rfl fun w855 h856 => ?_
     have hM := hM.call h856
     refine ogs rfl (isB_no hg827) rfl ?_
     refine ov rfl (fun w' h' => p_f rfl hg827 rfl) ?_
     obtain rfl := Option.some.inj hx
     exact mid_onilM () ⟨rfl, rfl, rfl, trivial⟩ fun w' h' => hM.call h'
   rintro _ w857 hM
   replace hx := hx842
   refine omv rfl rfl ?_
   obtain ⟨c859, hx, hx870⟩ := bind_some' hx
   refine wo_mid 6 [(123, (.bool c859))] rfl ?_ ?_
   ·
    rcases Bool.eq_false_or_eq_true c826 with hg860 | hg860
    ·
     replace hx := xif_t hg860 hx
     refine ogv rfl hg860 rfl (fun w' h' => r_ldBS Tryz.underlying27 sz27 rfl (us := [(.string r659.1.name), (.int .i64 r659.1.from_), s662.v, s663.v, s664.v]) rfl (hM.call h') (.tail _ (.tail _ (.tail _ (.tail _ (.tail _ (.head _)))))) rfl) ?_
     obtain ⟨r872, h873, hx⟩ := bind_some' hx
     refine ogc rfl hg860 rfl rfl (fun w' h' => (hM.call h').callV fun X S oL hS hR hO => ct_impl_HeadRev _ X S r659.1 s662 s663 s664 hS (seeA hO (.tail _ (.tail _ (.tail _ (.tail _ (.tail _ (.tail _ (.head _)))))))) (seeA hO (.tail _ (.tail _ (.tail _ (.tail _ (.tail _ (.tail _ (.tail _ (.head _))))))))) (seeA hO (.tail _ (.tail _ (.tail _ (.tail _ (.tail _ (.tail _ (.tail _ (.tail _ (.head _)))))))))) oL h873) ?_
     refine ogv rfl hg860 rfl (fun w' h' => r_ldBS Tryz.underlying27 sz27 rfl (us := [(.string r449.name), (.int .i64 r449.from_), s452.v, s453.v, s454.v]) rfl (hM.call h') (.head _) rfl) ?_
     obtain ⟨r876, h877, hx⟩ := bind_some' hx
     refine ogc rfl hg860 rfl rfl (fun w' h' => (hM.call h').callV fun X S oL hS hR hO => ct_impl_HeadRev _ X S r449 s452 s453 s454 hS (seeA hO (.tail _ (.head _))) (seeA hO (.tail _ (.tail _ (.head _)))) (seeA hO (.tail _ (.tail _ (.tail _ (.head _))))) oL h877) ?_
     refine ogv rfl hg860 rfl (fun w' h' => r_eql rfl rfl) ?_
     refine ov rfl (fun w' h' => p_t rfl hg860 rfl) ?_
     obtain rfl := Option.some.inj hx
     exact mid_onil ⟨rfl, trivial⟩
    ·
     replace hx := xif_f hg860 hx
     refine ogs rfl (isB_no hg860) rfl ?_
     refine ogs rfl (isB_no hg860) rfl ?_
     refine ogs rfl (isB_no hg860) rfl ?_
     refine ogs rfl (isB_no hg860) rfl ?_
     refine ogs rfl (isB_no hg860) rfl ?_
     refine ov rfl (fun w' h' => p_f rfl hg860 rfl) ?_
     obtain rfl := Option.some.inj hx
     exact mid_onil ⟨rfl, trivial⟩
   replace hx := hx870
   refine ov rfl (fun w' h' => r_assign rfl) ?_
   refine o_nilM hM fun w881 hM => ?_
   refine sq_n ?_
   refine wc_ret ?_
   obtain rfl := Option.some.inj hx
   refine fin_ret [(.bool c859)] ⟨rfl, trivial⟩ ?_
   replace hM := hM.t0
   have hM := hM.fewer rsN
   exact ⟨(), rfl, hM.gives⟩

end Go.Proofs.YtlgmikaemfbmaaaGreat
