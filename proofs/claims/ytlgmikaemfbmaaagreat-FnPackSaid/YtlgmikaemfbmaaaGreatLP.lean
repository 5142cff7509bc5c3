/- Walks of functions of this program (printed by a program of ours, by the rules of the layer). No condition. -/
import Derived.Test.YtlgmikaemfbmaaaGreatD3
import Derived.Test.YtlgmikaemfbmaaaGreatNs
namespace Go.Proofs.YtlgmikaemfbmaaaGreat
open Go.RowKit

noncomputable def x_laws_FnPack (code : List UInt8) : Option Bool :=
  bif decide ((1048576 : Int) < (code.length : Int)) then (some true) else (Option.bind (x_spec_MakeDoc code) fun r7 => Option.bind (x_impl_DocBytes r7) fun r23 => Option.bind (x_impl_BytesDoc r7.name r23.1) fun r36 => xg (0 + r23.1.length ≤ 1099511627776) <| xg (0 ≤ (0 : Int) ∧ (0 : Int) ≤ 255) <| xg (([] ++ r23.1).length + [0].length ≤ 1099511627776) <| Option.bind (x_impl_BytesDoc r7.name (([] ++ r23.1) ++ [0])) fun r83 => Option.bind (x_spec_MakeOp code 7) fun r109 => xg (0 ≤ (1 : Int) ∧ (1 : Int) ≤ 255) <| Option.bind (x_impl_PutOp [1] r109) fun r121 => xg (0 + r121.1.length ≤ 1099511627776) <| xg (0 ≤ (9 : Int) ∧ (9 : Int) ≤ 255) <| xg (([] ++ r121.1).length < 1099511627776) <| Option.bind (x_impl_GetOp (([] ++ r121.1) ++ [9]) 1) fun r145 => Option.bind (x_spec_MakeNum code 3000000) fun r158 => Option.bind (x_impl_PutNum [] r158) fun r164 => Option.bind (x_impl_GetNum r164.1 0) fun r175 => Option.bind (bif r23.2 then (some r36.2) else (some false)) fun c188 => Option.bind (bif c188 then (some (!r83.2)) else (some false)) fun c193 => Option.bind (bif c193 then (Option.bind (x_impl_DocSame r36.1 r7) fun r210 => some r210) else (some false)) fun c200 => Option.bind (bif c200 then (some r121.2) else (some false)) fun c215 => Option.bind (bif c215 then (some r145.2.2) else (some false)) fun c220 => Option.bind (bif c220 then (some (decide (r145.2.1 = (r121.1.length : Int)))) else (some false)) fun c225 => Option.bind (bif c225 then (Option.bind (x_impl_OpNorm r109) fun r251 => Option.bind (x_impl_OpSame r145.1 r251) fun r256 => some r256) else (some false)) fun c236 => Option.bind (bif c236 then (some r164.2) else (some false)) fun c261 => Option.bind (bif c261 then (some r175.2.2) else (some false)) fun c266 => Option.bind (bif c266 then (some (decide (r175.1 = r158))) else (some false)) fun c271 => Option.bind (bif c271 then (some (decide (r175.2.1 = (r164.1.length : Int)))) else (some false)) fun c280 => some c280)
theorem ct_laws_FnPack (w : World) (X S : Bs) (code : List UInt8) (s_code : Sv) (hS : ∀ b, S b → b < w.heap.size ∧ ¬ X b) (a_code_0 : (cSl 1 fY code).rd S w s_code.v) (oL : Sep [] X w) {r : Bool} (hx : x_laws_FnPack code = some r) :
  Ret Tryz.prog 4 [s_code.v] w (fun u w' => ∃ _ : Unit, u = (.bool r) ∧ Gives X S w [] [] w') := by
 unfold x_laws_FnPack at hx
 refine enter Tryz.func4 rfl Tryz.ntmps4 (by kernel_rfl) rfl ?_
 have hM := St.enter oL hS
 have hM := hM.addE (r := rV s_code.v (cSl 1 fY code)) a_code_0
 refine wc_sr ?_
 refine was rfl rfl ?_
 refine wl_sq ?_
 refine wc_seq ?_
 refine wc_sr ?_
 refine wmv rfl rfl ?_
 refine wv rfl (r_lenC Tryz.underlying22 rfl (hM.seeR (.head _))) ?_
 refine wv rfl (r_gtr rfl rfl) ?_
 refine wl_sq ?_
 refine wc_cond rfl (fun hc295 => ?_) (fun hc295 => ?_)
 ·
  replace hx := xif_t hc295 hx
  refine wc_sr ?_
  refine was rfl rfl ?_
  refine wl_sq ?_
  refine wc_ret ?_
  refine sq_ret ?_
  obtain rfl := Option.some.inj hx
  refine fin_ret [(.bool true)] ⟨rfl, trivial⟩ ?_
  replace hM := hM.t0
  have hM := hM.fewer rsN
  exact ⟨(), rfl, hM.gives⟩
 ·
  replace hx := xif_f hc295 hx
  refine wc_skip ?_
  refine sq_n ?_
  refine wc_sr ?_
  refine wmv rfl rfl ?_
  obtain ⟨r298, h299, hx⟩ := bind_some' hx
  refine w_call rfl rfl (hM.callO (l := []) fun X S oL hS hR hO => ct_spec_MakeDoc _ X S code s_code hS (hR _ (.head _)) oL h299) ?_
  rintro _ w300 ⟨⟨s301, s302, s303⟩, rfl, hM⟩
  dsimp only [List.cons_append, List.nil_append] at hM
  refine w_ex rfl (x_alloc sz27 hM ?_); intro b308 w307 hR309 hM
  dsimp only [Value.cells] at hM
  refine w_exu (x_stB #[(.string r298.name), (.int .i64 r298.from_), s301.v, s302.v, s303.v] sz27 rfl rfl rfl rfl rfl rfl hM ?_); intro w311 hM
  refine wl_sq ?_
  refine wc_sr ?_
  refine wv rfl (r_ldBS Tryz.underlying27 sz27 rfl (us := [(.string r298.name), (.int .i64 r298.from_), s301.v, s302.v, s303.v]) rfl hM (.head _) rfl) ?_
  obtain ⟨r314, h315, hx⟩ := bind_some' hx
  refine w_call rfl rfl (hM.callO (l := []) fun X S oL hS hR hO => ct_impl_DocBytes _ X S r298 s301 s302 s303 hS (seeA hO (.tail _ (.head _))) (seeA hO (.tail _ (.tail _ (.head _)))) (seeA hO (.tail _ (.tail _ (.tail _ (.head _))))) oL h315) ?_
  rintro _ w316 ⟨s317, rfl, hM⟩
  dsimp only [List.cons_append, List.nil_append] at hM
  refine wmv rfl rfl ?_
  refine wv rfl (r_extract rfl rfl) ?_
  refine wv rfl (r_extract rfl rfl) ?_
  refine was rfl rfl ?_
  refine was rfl rfl ?_
  refine wl_sq ?_
  refine wc_sr ?_
  refine wv rfl (r_fld Tryz.underlying27 rfl rfl sz9 rfl) ?_
  refine wv rfl (r_ldB Tryz.underlying9 rfl rfl hM (.tail _ (.head _)) rfl) ?_
  refine wmv rfl rfl ?_
  obtain ⟨r327, h328, hx⟩ := bind_some' hx
  refine w_call rfl rfl (hM.callO (l := []) fun X S oL hS hR hO => ct_impl_BytesDoc _ X S r298.name r314.1 s317 hS (seeA hO (.head _)) oL h328) ?_
  rintro _ w329 ⟨⟨s330, s331, s332⟩, rfl, hM⟩
  dsimp only [List.cons_append, List.nil_append] at hM
  refine wmv rfl rfl ?_
  refine wv rfl (r_extract rfl rfl) ?_
  refine wv rfl (r_extract rfl rfl) ?_
  refine w_ex rfl (x_alloc sz27 hM ?_); intro b340 w339 hR341 hM
  dsimp only [Value.cells] at hM
  refine w_exu (x_stB #[(.string r327.1.name), (.int .i64 r327.1.from_), s330.v, s331.v, s332.v] sz27 rfl rfl rfl rfl rfl rfl hM ?_); intro w343 hM
  refine was rfl rfl ?_
  refine wl_sq ?_
  refine wc_seq ?_
  obtain ⟨hg357, hx⟩ := xg_some hx
  obtain ⟨hg363, hx⟩ := xg_some hx
  obtain ⟨hg370, hx⟩ := xg_some hx
  obtain ⟨r374, h375, hx⟩ := bind_some' hx
  refine wc_mid (fun (u : Unit) => [(0, s_code.v), (3, (.pointer (some ⟨b308, 0, none⟩))), (5, (.bool r314.2)), (6, (.pointer (some ⟨b340, 0, none⟩))), (7, (.bool r327.2)), (9, (.bool r374.2))]) (fun (u : Unit) w' => St ⟨w, X, S⟩ [oBox b308 #[(.string r298.name), (.int .i64 r298.from_), s301.v, s302.v, s303.v] 27, oC (cSl 1 fI r298.text) s301.v, oC (cSl 3 fDEntry r298.list) s302.v, oC (cSl 3 fDSeen r298.seen) s303.v, oBox b340 #[(.string r327.1.name), (.int .i64 r327.1.from_), s330.v, s331.v, s332.v] 27, oC (cSl 1 fI r327.1.text) s330.v, oC (cSl 3 fDEntry r327.1.list) s331.v, oC (cSl 3 fDSeen r327.1.seen) s332.v] [rV s_code.v (cSl 1 fY code)] w') ?_ ?_
  ·
   refine wc_drawM (fun w' => ∃ m rs, St ⟨w, X, S⟩ m rs w' ∧ oBox b308 #[(.string r298.name), (.int .i64 r298.from_), s301.v, s302.v, s303.v] 27 ∈ m) Tryz_mixed ?_
   refine wm_run [(3, 0)] 13 (fun _ h' => ⟨_, _, hM.call h', (.tail _ (.tail _ (.tail _ (.tail _ (.tail _ (.head _))))))⟩) rfl rfl (by kernel_rfl) (by kernel_rfl) rfl ?_
   refine omv rfl rfl ?_
   refine o_nilM hM fun w400 hM => ?_
   refine wm_free 0 12 rfl rfl (by kernel_rfl) (by kernel_rfl) rfl (fun _ _ => r_fld Tryz.underlying27 rfl rfl sz9 rfl) ?_
   refine wm_free 1 11 rfl rfl (by kernel_rfl) (by kernel_rfl) rfl (fun _ ⟨_, _, hM, q0⟩ => r_ldB Tryz.underlying9 rfl rfl hM q0 rfl) ?_
   refine wm_fork [(2, 1), (5, 1), (11, 1)] 10 (fun _ h' => ⟨_, _, hM.call h', (.tail _ (.tail _ (.tail _ (.tail _ (.tail _ (.head _))))))⟩) rfl (by kernel_rfl) rfl (by kernel_rfl) ⟨?_, ?_, ?_, trivial⟩
   ·
    refine o_ex rfl fun w407 h408 => ?_
    have hM := hM.call h408
    refine x_empty0 (f := fY) Tryz.underlying22 sz5 (fun _ => rfl) hM ?_; intro b405 w404 hR406 hM
    replace hM : St ⟨w, X, S⟩ [oC (cSl 1 fY ([] : List UInt8)) (⟨some ⟨b405, 0, none⟩, 0, 0⟩ : Sv).v, oBox b340 #[(.string r327.1.name), (.int .i64 r327.1.from_), s330.v, s331.v, s332.v] 27, oC (cSl 1 fI r327.1.text) s330.v, oC (cSl 3 fDEntry r327.1.list) s331.v, oC (cSl 3 fDSeen r327.1.seen) s332.v, oC (cSl 1 fY r314.1) s317.v, oBox b308 #[(.string r298.name), (.int .i64 r298.from_), s301.v, s302.v, s303.v] 27, oC (cSl 1 fI r298.text) s301.v, oC (cSl 3 fDEntry r298.list) s302.v, oC (cSl 3 fDSeen r298.seen) s303.v] [rV s_code.v (cSl 1 fY code)] _ := hM
    refine o_nilM hM fun w410 hM => ?_
    refine wm_fork [(4, 1), (5, 1), (11, 1)] 9 (fun _ h' => ⟨_, _, hM.call h', (.tail _ (.tail _ (.tail _ (.tail _ (.tail _ (.tail _ (.head _)))))))⟩) rfl (by kernel_rfl) rfl (by kernel_rfl) ⟨?_, ?_, ?_, trivial⟩
    ·
     refine o_ex rfl fun w415 h416 => ?_
     have hM := hM.call h416
     refine x_append0 (f := fY) Tryz.underlying22 sz5 rfl rfl (hM.seeO (.tail _ (.tail _ (.tail _ (.tail _ (.tail _ (.head _))))))) flY hM hg357 rfl ?_; intro s413 w412 hR414 hM
     refine o_nilM hM fun w417 hM => ?_
     refine wm_fork [(5, 1), (11, 1)] 8 (fun _ h' => ⟨_, _, hM.call h', (.tail _ (.tail _ (.tail _ (.tail _ (.tail _ (.tail _ (.head _)))))))⟩) rfl (by kernel_rfl) rfl (by kernel_rfl) ⟨?_, ?_, trivial⟩
     ·
      refine o_ex rfl fun w422 h423 => ?_
      have hM := hM.call h423
      refine x_lit (f := fY) (own := []) [0] [(.int .u8 0)] 1 Tryz.underlying22 sz5 (fun _ => rfl) rfl rfl rfl rfl rfl (by kernel_rfl) (fun _ => zP (pY hg363) zN) hM ?_; intro s420 w419 hR421 hM
      refine o_nilM hM fun w425 hM => ?_
      refine wm_fork [(6, 1), (11, 1)] 7 (fun _ h' => ⟨_, _, hM.call h', (.tail _ (.tail _ (.tail _ (.tail _ (.tail _ (.tail _ (.tail _ (.head _))))))))⟩) rfl (by kernel_rfl) rfl (by kernel_rfl) ⟨?_, ?_, trivial⟩
      ·
       replace hM := hM.p1
       refine o_ex rfl fun w430 h431 => ?_
       have hM := hM.call h431
       refine x_append Tryz.underlying22 sz5 rfl rfl (hM.seeO (.tail _ (.head _))) flY hM hg370 rfl ?_; intro s428 w427 hM
       refine o_nilM hM fun w432 hM => ?_
       refine wm_fork [(7, 1), (11, 1)] 6 (fun _ h' => ⟨_, _, hM.call h', (.tail _ (.tail _ (.tail _ (.tail _ (.tail _ (.tail _ (.tail _ (.head _))))))))⟩) rfl (by kernel_rfl) rfl (by kernel_rfl) ⟨?_, ?_, trivial⟩
       ·
        refine o_call rfl rfl (fun w' h' => (hM.call h').callO (l := []) fun X S oL hS hR hO => ct_impl_BytesDoc _ X S r298.name (([] ++ r314.1) ++ [0]) s428 hS (seeA hO (.head _)) oL h375) ?_
        rintro w438 h439 _ w434 ⟨⟨s435, s436, s437⟩, rfl, hM⟩
        dsimp only [List.cons_append, List.nil_append] at hM
        refine o_nilM hM fun w443 hM => ?_
        refine wm_run [(8, 0), (9, 0)] 4 (fun _ h' => ⟨_, _, hM.call h', (.tail _ (.tail _ (.tail _ (.tail _ (.tail _ (.tail _ (.tail _ (.tail _ (.tail _ (.tail _ (.head _)))))))))))⟩) rfl rfl (by kernel_rfl) (by kernel_rfl) rfl ?_
        refine omv rfl rfl ?_
        refine ov rfl (fun w' h' => r_extract rfl rfl) ?_
        refine o_nilM hM fun w447 hM => ?_
        refine wm_free 10 3 rfl rfl (by kernel_rfl) (by kernel_rfl) rfl (fun _ _ => r_extract rfl rfl) ?_
        refine wm_run [(11, 1)] 2 (fun _ h' => ⟨_, _, hM.call h', (.tail _ (.tail _ (.tail _ (.tail _ (.tail _ (.tail _ (.tail _ (.tail _ (.tail _ (.tail _ (.head _)))))))))))⟩) rfl rfl (by kernel_rfl) (by kernel_rfl) rfl ?_
        refine o_ex1 rfl fun w453 h454 => ?_
        have hM := hM.call h454
        refine x_alloc sz27 hM ?_; intro b451 w450 hR452 hM
        refine ⟨hR452, ?_⟩
        dsimp only [Value.cells] at hM
        refine o_nilM hM fun w456 hM => ?_
        refine wm_run [(12, 2), (13, 0)] 0 (fun _ h' => ⟨_, _, hM.call h', (.tail _ (.tail _ (.tail _ (.tail _ (.tail _ (.tail _ (.tail _ (.tail _ (.tail _ (.tail _ (.tail _ (.head _))))))))))))⟩) rfl rfl (by kernel_rfl) (by kernel_rfl) rfl ?_
        refine o_exu fun w460 h461 => ?_
        have hM := hM.call h461
        refine x_stB #[(.string r374.1.name), (.int .i64 r374.1.from_), s435.v, s436.v, s437.v] sz27 rfl rfl rfl rfl rfl rfl hM ?_; intro w458 hM
        refine ov rfl (fun w' h' => r_assign rfl) ?_
        refine o_nilM hM fun w463 hM => ?_
        refine wm_end (fun _ h' => ⟨_, _, hM.call h', (.tail _ (.tail _ (.tail _ (.tail _ (.tail _ (.tail _ (.tail _ (.tail _ (.tail _ (.tail _ (.tail _ (.head _))))))))))))⟩) (by kernel_rfl) fun w465 hw466 => ?_
        have hM := hM.call hw466
        replace hM := hM.p9.p9.p9.p9.p14.p14.p14.p14
        replace hM := hM.t8
        exact mid_c () ⟨rfl, rfl, rfl, rfl, rfl, rfl, trivial⟩ hM
       ·
        refine o_ex rfl fun w470 h471 => ?_
        have hM := hM.call h471
        refine x_alloc sz27 hM ?_; intro b468 w467 hR469 hM
        dsimp only [Value.cells] at hM
        refine o_nilM hM fun w473 hM => ?_
        refine wm_run [(7, 2), (8, 0), (9, 0)] 3 (fun _ h' => ⟨_, _, hM.call h', (.tail _ (.tail _ (.tail _ (.tail _ (.tail _ (.tail _ (.tail _ (.tail _ (.head _)))))))))⟩) rfl rfl (by kernel_rfl) (by kernel_rfl) rfl ?_
        refine o_call rfl rfl (fun w' h' => (hM.call h').callO (l := []) fun X S oL hS hR hO => ct_impl_BytesDoc _ X S r298.name (([] ++ r314.1) ++ [0]) s428 hS (seeA hO (.tail _ (.head _))) oL h375) ?_
        rintro w479 h480 _ w475 ⟨⟨s476, s477, s478⟩, rfl, hM⟩
        dsimp only [List.cons_append, List.nil_append] at hM
        refine omv rfl rfl ?_
        refine ov rfl (fun w' h' => r_extract rfl rfl) ?_
        refine o_nilM hM fun w486 hM => ?_
        refine wm_free 10 2 rfl rfl (by kernel_rfl) (by kernel_rfl) rfl (fun _ _ => r_extract rfl rfl) ?_
        refine wm_run [(12, 2), (13, 0)] 0 (fun _ h' => ⟨_, _, hM.call h', (.tail _ (.tail _ (.tail _ (.tail _ (.tail _ (.tail _ (.tail _ (.tail _ (.tail _ (.tail _ (.tail _ (.head _))))))))))))⟩) rfl rfl (by kernel_rfl) (by kernel_rfl) rfl ?_
        replace hM := hM.p3
        refine o_exu fun w491 h492 => ?_
        have hM := hM.call h492
        refine x_stB #[(.string r374.1.name), (.int .i64 r374.1.from_), s476.v, s477.v, s478.v] sz27 rfl rfl rfl rfl rfl rfl hM ?_; intro w489 hM
        refine ov rfl (fun w' h' => r_assign rfl) ?_
        refine o_nilM hM fun w494 hM => ?_
        refine wm_end (fun _ h' => ⟨_, _, hM.call h', (.tail _ (.tail _ (.tail _ (.tail _ (.tail _ (.tail _ (.tail _ (.tail _ (.tail _ (.tail _ (.tail _ (.head _))))))))))))⟩) (by kernel_rfl) fun w496 hw497 => ?_
        have hM := hM.call hw497
        replace hM := hM.p9.p9.p9.p9.p14.p14.p14.p14
        replace hM := hM.t8
        exact mid_c () ⟨rfl, rfl, rfl, rfl, rfl, rfl, trivial⟩ hM
      ·
       refine o_ex rfl fun w501 h502 => ?_
       have hM := hM.call h502
       refine x_alloc sz27 hM ?_; intro b499 w498 hR500 hM
       dsimp only [Value.cells] at hM
       refine o_nilM hM fun w504 hM => ?_
       refine wm_run [(6, 2)] 6 (fun _ h' => ⟨_, _, hM.call h', (.tail _ (.tail _ (.tail _ (.tail _ (.tail _ (.tail _ (.tail _ (.tail _ (.head _)))))))))⟩) rfl rfl (by kernel_rfl) (by kernel_rfl) rfl ?_
       replace hM := hM.p2
       refine o_ex rfl fun w509 h510 => ?_
       have hM := hM.call h510
       refine x_append Tryz.underlying22 sz5 rfl rfl (hM.seeO (.tail _ (.tail _ (.head _)))) flY hM hg370 rfl ?_; intro s507 w506 hM
       refine o_nilM hM fun w511 hM => ?_
       refine wm_run [(7, 2), (8, 0), (9, 0)] 3 (fun _ h' => ⟨_, _, hM.call h', (.tail _ (.tail _ (.tail _ (.tail _ (.tail _ (.tail _ (.tail _ (.tail _ (.head _)))))))))⟩) rfl rfl (by kernel_rfl) (by kernel_rfl) rfl ?_
       refine o_call rfl rfl (fun w' h' => (hM.call h').callO (l := []) fun X S oL hS hR hO => ct_impl_BytesDoc _ X S r298.name (([] ++ r314.1) ++ [0]) s507 hS (seeA hO (.head _)) oL h375) ?_
       rintro w517 h518 _ w513 ⟨⟨s514, s515, s516⟩, rfl, hM⟩
       dsimp only [List.cons_append, List.nil_append] at hM
       refine omv rfl rfl ?_
       refine ov rfl (fun w' h' => r_extract rfl rfl) ?_
       refine o_nilM hM fun w524 hM => ?_
       refine wm_free 10 2 rfl rfl (by kernel_rfl) (by kernel_rfl) rfl (fun _ _ => r_extract rfl rfl) ?_
       refine wm_run [(12, 2), (13, 0)] 0 (fun _ h' => ⟨_, _, hM.call h', (.tail _ (.tail _ (.tail _ (.tail _ (.tail _ (.tail _ (.tail _ (.tail _ (.tail _ (.tail _ (.tail _ (.head _))))))))))))⟩) rfl rfl (by kernel_rfl) (by kernel_rfl) rfl ?_
       replace hM := hM.p4
       refine o_exu fun w529 h530 => ?_
       have hM := hM.call h530
       refine x_stB #[(.string r374.1.name), (.int .i64 r374.1.from_), s514.v, s515.v, s516.v] sz27 rfl rfl rfl rfl rfl rfl hM ?_; intro w527 hM
       refine ov rfl (fun w' h' => r_assign rfl) ?_
       refine o_nilM hM fun w532 hM => ?_
       refine wm_end (fun _ h' => ⟨_, _, hM.call h', (.tail _ (.tail _ (.tail _ (.tail _ (.tail _ (.tail _ (.tail _ (.tail _ (.tail _ (.tail _ (.tail _ (.head _))))))))))))⟩) (by kernel_rfl) fun w534 hw535 => ?_
       have hM := hM.call hw535
       replace hM := hM.p9.p9.p9.p9.p14.p14.p14.p14
       replace hM := hM.t8
       exact mid_c () ⟨rfl, rfl, rfl, rfl, rfl, rfl, trivial⟩ hM
     ·
      refine o_ex rfl fun w539 h540 => ?_
      have hM := hM.call h540
      refine x_alloc sz27 hM ?_; intro b537 w536 hR538 hM
      dsimp only [Value.cells] at hM
      refine o_nilM hM fun w542 hM => ?_
      refine wm_run [(5, 2)] 7 (fun _ h' => ⟨_, _, hM.call h', (.tail _ (.tail _ (.tail _ (.tail _ (.tail _ (.tail _ (.tail _ (.head _))))))))⟩) rfl rfl (by kernel_rfl) (by kernel_rfl) rfl ?_
      refine o_ex rfl fun w547 h548 => ?_
      have hM := hM.call h548
      refine x_lit (f := fY) (own := []) [0] [(.int .u8 0)] 1 Tryz.underlying22 sz5 (fun _ => rfl) rfl rfl rfl rfl rfl (by kernel_rfl) (fun _ => zP (pY hg363) zN) hM ?_; intro s545 w544 hR546 hM
      refine o_nilM hM fun w550 hM => ?_
      refine wm_run [(6, 2)] 6 (fun _ h' => ⟨_, _, hM.call h', (.tail _ (.tail _ (.tail _ (.tail _ (.tail _ (.tail _ (.tail _ (.tail _ (.head _)))))))))⟩) rfl rfl (by kernel_rfl) (by kernel_rfl) rfl ?_
      replace hM := hM.p2
      refine o_ex rfl fun w555 h556 => ?_
      have hM := hM.call h556
      refine x_append Tryz.underlying22 sz5 rfl rfl (hM.seeO (.tail _ (.head _))) flY hM hg370 rfl ?_; intro s553 w552 hM
      refine o_nilM hM fun w557 hM => ?_
      refine wm_run [(7, 2), (8, 0), (9, 0)] 3 (fun _ h' => ⟨_, _, hM.call h', (.tail _ (.tail _ (.tail _ (.tail _ (.tail _ (.tail _ (.tail _ (.tail _ (.head _)))))))))⟩) rfl rfl (by kernel_rfl) (by kernel_rfl) rfl ?_
      refine o_call rfl rfl (fun w' h' => (hM.call h').callO (l := []) fun X S oL hS hR hO => ct_impl_BytesDoc _ X S r298.name (([] ++ r314.1) ++ [0]) s553 hS (seeA hO (.head _)) oL h375) ?_
      rintro w563 h564 _ w559 ⟨⟨s560, s561, s562⟩, rfl, hM⟩
      dsimp only [List.cons_append, List.nil_append] at hM
      refine omv rfl rfl ?_
      refine ov rfl (fun w' h' => r_extract rfl rfl) ?_
      refine o_nilM hM fun w570 hM => ?_
      refine wm_free 10 2 rfl rfl (by kernel_rfl) (by kernel_rfl) rfl (fun _ _ => r_extract rfl rfl) ?_
      refine wm_run [(12, 2), (13, 0)] 0 (fun _ h' => ⟨_, _, hM.call h', (.tail _ (.tail _ (.tail _ (.tail _ (.tail _ (.tail _ (.tail _ (.tail _ (.tail _ (.tail _ (.tail _ (.head _))))))))))))⟩) rfl rfl (by kernel_rfl) (by kernel_rfl) rfl ?_
      replace hM := hM.p5
      refine o_exu fun w575 h576 => ?_
      have hM := hM.call h576
      refine x_stB #[(.string r374.1.name), (.int .i64 r374.1.from_), s560.v, s561.v, s562.v] sz27 rfl rfl rfl rfl rfl rfl hM ?_; intro w573 hM
      refine ov rfl (fun w' h' => r_assign rfl) ?_
      refine o_nilM hM fun w578 hM => ?_
      refine wm_end (fun _ h' => ⟨_, _, hM.call h', (.tail _ (.tail _ (.tail _ (.tail _ (.tail _ (.tail _ (.tail _ (.tail _ (.tail _ (.tail _ (.tail _ (.head _))))))))))))⟩) (by kernel_rfl) fun w580 hw581 => ?_
      have hM := hM.call hw581
      replace hM := hM.p9.p9.p9.p9.p14.p14.p14.p14
      replace hM := hM.t8
      exact mid_c () ⟨rfl, rfl, rfl, rfl, rfl, rfl, trivial⟩ hM
    ·
     refine o_ex rfl fun w585 h586 => ?_
     have hM := hM.call h586
     refine x_lit (f := fY) (own := []) [0] [(.int .u8 0)] 1 Tryz.underlying22 sz5 (fun _ => rfl) rfl rfl rfl rfl rfl (by kernel_rfl) (fun _ => zP (pY hg363) zN) hM ?_; intro s583 w582 hR584 hM
     refine o_nilM hM fun w588 hM => ?_
     refine wm_fork [(4, 1), (11, 1)] 8 (fun _ h' => ⟨_, _, hM.call h', (.tail _ (.tail _ (.tail _ (.tail _ (.tail _ (.tail _ (.tail _ (.head _))))))))⟩) rfl (by kernel_rfl) rfl (by kernel_rfl) ⟨?_, ?_, trivial⟩
     ·
      replace hM := hM.p1
      refine o_ex rfl fun w593 h594 => ?_
      have hM := hM.call h594
      refine x_append0 (f := fY) Tryz.underlying22 sz5 rfl rfl (hM.seeO (.tail _ (.tail _ (.tail _ (.tail _ (.tail _ (.tail _ (.head _)))))))) flY hM hg357 rfl ?_; intro s591 w590 hR592 hM
      refine o_nilM hM fun w595 hM => ?_
      refine wm_fork [(6, 1), (11, 1)] 7 (fun _ h' => ⟨_, _, hM.call h', (.tail _ (.tail _ (.tail _ (.tail _ (.tail _ (.tail _ (.tail _ (.head _))))))))⟩) rfl (by kernel_rfl) rfl (by kernel_rfl) ⟨?_, ?_, trivial⟩
      ·
       refine o_ex rfl fun w600 h601 => ?_
       have hM := hM.call h601
       refine x_append Tryz.underlying22 sz5 rfl rfl (hM.seeO (.tail _ (.head _))) flY hM hg370 rfl ?_; intro s598 w597 hM
       refine o_nilM hM fun w602 hM => ?_
       refine wm_fork [(7, 1), (11, 1)] 6 (fun _ h' => ⟨_, _, hM.call h', (.tail _ (.tail _ (.tail _ (.tail _ (.tail _ (.tail _ (.tail _ (.head _))))))))⟩) rfl (by kernel_rfl) rfl (by kernel_rfl) ⟨?_, ?_, trivial⟩
       ·
        refine o_call rfl rfl (fun w' h' => (hM.call h').callO (l := []) fun X S oL hS hR hO => ct_impl_BytesDoc _ X S r298.name (([] ++ r314.1) ++ [0]) s598 hS (seeA hO (.head _)) oL h375) ?_
        rintro w608 h609 _ w604 ⟨⟨s605, s606, s607⟩, rfl, hM⟩
        dsimp only [List.cons_append, List.nil_append] at hM
        refine o_nilM hM fun w613 hM => ?_
        refine wm_run [(8, 0), (9, 0)] 4 (fun _ h' => ⟨_, _, hM.call h', (.tail _ (.tail _ (.tail _ (.tail _ (.tail _ (.tail _ (.tail _ (.tail _ (.tail _ (.tail _ (.head _)))))))))))⟩) rfl rfl (by kernel_rfl) (by kernel_rfl) rfl ?_
        refine omv rfl rfl ?_
        refine ov rfl (fun w' h' => r_extract rfl rfl) ?_
        refine o_nilM hM fun w617 hM => ?_
        refine wm_free 10 3 rfl rfl (by kernel_rfl) (by kernel_rfl) rfl (fun _ _ => r_extract rfl rfl) ?_
        refine wm_run [(11, 1)] 2 (fun _ h' => ⟨_, _, hM.call h', (.tail _ (.tail _ (.tail _ (.tail _ (.tail _ (.tail _ (.tail _ (.tail _ (.tail _ (.tail _ (.head _)))))))))))⟩) rfl rfl (by kernel_rfl) (by kernel_rfl) rfl ?_
        refine o_ex1 rfl fun w623 h624 => ?_
        have hM := hM.call h624
        refine x_alloc sz27 hM ?_; intro b621 w620 hR622 hM
        refine ⟨hR622, ?_⟩
        dsimp only [Value.cells] at hM
        refine o_nilM hM fun w626 hM => ?_
        refine wm_run [(12, 2), (13, 0)] 0 (fun _ h' => ⟨_, _, hM.call h', (.tail _ (.tail _ (.tail _ (.tail _ (.tail _ (.tail _ (.tail _ (.tail _ (.tail _ (.tail _ (.tail _ (.head _))))))))))))⟩) rfl rfl (by kernel_rfl) (by kernel_rfl) rfl ?_
        refine o_exu fun w630 h631 => ?_
        have hM := hM.call h631
        refine x_stB #[(.string r374.1.name), (.int .i64 r374.1.from_), s605.v, s606.v, s607.v] sz27 rfl rfl rfl rfl rfl rfl hM ?_; intro w628 hM
        refine ov rfl (fun w' h' => r_assign rfl) ?_
        refine o_nilM hM fun w633 hM => ?_
        refine wm_end (fun _ h' => ⟨_, _, hM.call h', (.tail _ (.tail _ (.tail _ (.tail _ (.tail _ (.tail _ (.tail _ (.tail _ (.tail _ (.tail _ (.tail _ (.head _))))))))))))⟩) (by kernel_rfl) fun w635 hw636 => ?_
        have hM := hM.call hw636
        replace hM := hM.p9.p9.p9.p9.p14.p14.p14.p14
        replace hM := hM.t8
        exact mid_c () ⟨rfl, rfl, rfl, rfl, rfl, rfl, trivial⟩ hM
       ·
        refine o_ex rfl fun w640 h641 => ?_
        have hM := hM.call h641
        refine x_alloc sz27 hM ?_; intro b638 w637 hR639 hM
        dsimp only [Value.cells] at hM
        refine o_nilM hM fun w643 hM => ?_
        refine wm_run [(7, 2), (8, 0), (9, 0)] 3 (fun _ h' => ⟨_, _, hM.call h', (.tail _ (.tail _ (.tail _ (.tail _ (.tail _ (.tail _ (.tail _ (.tail _ (.head _)))))))))⟩) rfl rfl (by kernel_rfl) (by kernel_rfl) rfl ?_
        refine o_call rfl rfl (fun w' h' => (hM.call h').callO (l := []) fun X S oL hS hR hO => ct_impl_BytesDoc _ X S r298.name (([] ++ r314.1) ++ [0]) s598 hS (seeA hO (.tail _ (.head _))) oL h375) ?_
        rintro w649 h650 _ w645 ⟨⟨s646, s647, s648⟩, rfl, hM⟩
        dsimp only [List.cons_append, List.nil_append] at hM
        refine omv rfl rfl ?_
        refine ov rfl (fun w' h' => r_extract rfl rfl) ?_
        refine o_nilM hM fun w656 hM => ?_
        refine wm_free 10 2 rfl rfl (by kernel_rfl) (by kernel_rfl) rfl (fun _ _ => r_extract rfl rfl) ?_
        refine wm_run [(12, 2), (13, 0)] 0 (fun _ h' => ⟨_, _, hM.call h', (.tail _ (.tail _ (.tail _ (.tail _ (.tail _ (.tail _ (.tail _ (.tail _ (.tail _ (.tail _ (.tail _ (.head _))))))))))))⟩) rfl rfl (by kernel_rfl) (by kernel_rfl) rfl ?_
        replace hM := hM.p3
        refine o_exu fun w661 h662 => ?_
        have hM := hM.call h662
        refine x_stB #[(.string r374.1.name), (.int .i64 r374.1.from_), s646.v, s647.v, s648.v] sz27 rfl rfl rfl rfl rfl rfl hM ?_; intro w659 hM
        refine ov rfl (fun w' h' => r_assign rfl) ?_
        refine o_nilM hM fun w664 hM => ?_
        refine wm_end (fun _ h' => ⟨_, _, hM.call h', (.tail _ (.tail _ (.tail _ (.tail _ (.tail _ (.tail _ (.tail _ (.tail _ (.tail _ (.tail _ (.tail _ (.head _))))))))))))⟩) (by kernel_rfl) fun w666 hw667 => ?_
        have hM := hM.call hw667
        replace hM := hM.p9.p9.p9.p9.p14.p14.p14.p14
        replace hM := hM.t8
        exact mid_c () ⟨rfl, rfl, rfl, rfl, rfl, rfl, trivial⟩ hM
      ·
       refine o_ex rfl fun w671 h672 => ?_
       have hM := hM.call h672
       refine x_alloc sz27 hM ?_; intro b669 w668 hR670 hM
       dsimp only [Value.cells] at hM
       refine o_nilM hM fun w674 hM => ?_
       refine wm_run [(6, 2)] 6 (fun _ h' => ⟨_, _, hM.call h', (.tail _ (.tail _ (.tail _ (.tail _ (.tail _ (.tail _ (.tail _ (.tail _ (.head _)))))))))⟩) rfl rfl (by kernel_rfl) (by kernel_rfl) rfl ?_
       replace hM := hM.p1
       refine o_ex rfl fun w679 h680 => ?_
       have hM := hM.call h680
       refine x_append Tryz.underlying22 sz5 rfl rfl (hM.seeO (.tail _ (.tail _ (.head _)))) flY hM hg370 rfl ?_; intro s677 w676 hM
       refine o_nilM hM fun w681 hM => ?_
       refine wm_run [(7, 2), (8, 0), (9, 0)] 3 (fun _ h' => ⟨_, _, hM.call h', (.tail _ (.tail _ (.tail _ (.tail _ (.tail _ (.tail _ (.tail _ (.tail _ (.head _)))))))))⟩) rfl rfl (by kernel_rfl) (by kernel_rfl) rfl ?_
       refine o_call rfl rfl (fun w' h' => (hM.call h').callO (l := []) fun X S oL hS hR hO => ct_impl_BytesDoc _ X S r298.name (([] ++ r314.1) ++ [0]) s677 hS (seeA hO (.head _)) oL h375) ?_
       rintro w687 h688 _ w683 ⟨⟨s684, s685, s686⟩, rfl, hM⟩
       dsimp only [List.cons_append, List.nil_append] at hM
       refine omv rfl rfl ?_
       refine ov rfl (fun w' h' => r_extract rfl rfl) ?_
       refine o_nilM hM fun w694 hM => ?_
       refine wm_free 10 2 rfl rfl (by kernel_rfl) (by kernel_rfl) rfl (fun _ _ => r_extract rfl rfl) ?_
       refine wm_run [(12, 2), (13, 0)] 0 (fun _ h' => ⟨_, _, hM.call h', (.tail _ (.tail _ (.tail _ (.tail _ (.tail _ (.tail _ (.tail _ (.tail _ (.tail _ (.tail _ (.tail _ (.head _))))))))))))⟩) rfl rfl (by kernel_rfl) (by kernel_rfl) rfl ?_
       replace hM := hM.p4
       refine o_exu fun w699 h700 => ?_
       have hM := hM.call h700
       refine x_stB #[(.string r374.1.name), (.int .i64 r374.1.from_), s684.v, s685.v, s686.v] sz27 rfl rfl rfl rfl rfl rfl hM ?_; intro w697 hM
       refine ov rfl (fun w' h' => r_assign rfl) ?_
       refine o_nilM hM fun w702 hM => ?_
       refine wm_end (fun _ h' => ⟨_, _, hM.call h', (.tail _ (.tail _ (.tail _ (.tail _ (.tail _ (.tail _ (.tail _ (.tail _ (.tail _ (.tail _ (.tail _ (.head _))))))))))))⟩) (by kernel_rfl) fun w704 hw705 => ?_
       have hM := hM.call hw705
       replace hM := hM.p9.p9.p9.p9.p14.p14.p14.p14
       replace hM := hM.t8
       exact mid_c () ⟨rfl, rfl, rfl, rfl, rfl, rfl, trivial⟩ hM
     ·
      refine o_ex rfl fun w709 h710 => ?_
      have hM := hM.call h710
      refine x_alloc sz27 hM ?_; intro b707 w706 hR708 hM
      dsimp only [Value.cells] at hM
      refine o_nilM hM fun w712 hM => ?_
      refine wm_run [(4, 2)] 7 (fun _ h' => ⟨_, _, hM.call h', (.tail _ (.tail _ (.tail _ (.tail _ (.tail _ (.tail _ (.tail _ (.tail _ (.head _)))))))))⟩) rfl rfl (by kernel_rfl) (by kernel_rfl) rfl ?_
      replace hM := hM.p2
      refine o_ex rfl fun w717 h718 => ?_
      have hM := hM.call h718
      refine x_append0 (f := fY) Tryz.underlying22 sz5 rfl rfl (hM.seeO (.tail _ (.tail _ (.tail _ (.tail _ (.tail _ (.tail _ (.tail _ (.head _))))))))) flY hM hg357 rfl ?_; intro s715 w714 hR716 hM
      refine o_nilM hM fun w719 hM => ?_
      refine wm_run [(6, 2)] 6 (fun _ h' => ⟨_, _, hM.call h', (.tail _ (.tail _ (.tail _ (.tail _ (.tail _ (.tail _ (.tail _ (.tail _ (.head _)))))))))⟩) rfl rfl (by kernel_rfl) (by kernel_rfl) rfl ?_
      refine o_ex rfl fun w724 h725 => ?_
      have hM := hM.call h725
      refine x_append Tryz.underlying22 sz5 rfl rfl (hM.seeO (.tail _ (.tail _ (.head _)))) flY hM hg370 rfl ?_; intro s722 w721 hM
      refine o_nilM hM fun w726 hM => ?_
      refine wm_run [(7, 2), (8, 0), (9, 0)] 3 (fun _ h' => ⟨_, _, hM.call h', (.tail _ (.tail _ (.tail _ (.tail _ (.tail _ (.tail _ (.tail _ (.tail _ (.head _)))))))))⟩) rfl rfl (by kernel_rfl) (by kernel_rfl) rfl ?_
      refine o_call rfl rfl (fun w' h' => (hM.call h').callO (l := []) fun X S oL hS hR hO => ct_impl_BytesDoc _ X S r298.name (([] ++ r314.1) ++ [0]) s722 hS (seeA hO (.head _)) oL h375) ?_
      rintro w732 h733 _ w728 ⟨⟨s729, s730, s731⟩, rfl, hM⟩
      dsimp only [List.cons_append, List.nil_append] at hM
      refine omv rfl rfl ?_
      refine ov rfl (fun w' h' => r_extract rfl rfl) ?_
      refine o_nilM hM fun w739 hM => ?_
      refine wm_free 10 2 rfl rfl (by kernel_rfl) (by kernel_rfl) rfl (fun _ _ => r_extract rfl rfl) ?_
      refine wm_run [(12, 2), (13, 0)] 0 (fun _ h' => ⟨_, _, hM.call h', (.tail _ (.tail _ (.tail _ (.tail _ (.tail _ (.tail _ (.tail _ (.tail _ (.tail _ (.tail _ (.tail _ (.head _))))))))))))⟩) rfl rfl (by kernel_rfl) (by kernel_rfl) rfl ?_
      replace hM := hM.p4
      refine o_exu fun w744 h745 => ?_
      have hM := hM.call h745
      refine x_stB #[(.string r374.1.name), (.int .i64 r374.1.from_), s729.v, s730.v, s731.v] sz27 rfl rfl rfl rfl rfl rfl hM ?_; intro w742 hM
      refine ov rfl (fun w' h' => r_assign rfl) ?_
      refine o_nilM hM fun w747 hM => ?_
      refine wm_end (fun _ h' => ⟨_, _, hM.call h', (.tail _ (.tail _ (.tail _ (.tail _ (.tail _ (.tail _ (.tail _ (.tail _ (.tail _ (.tail _ (.tail _ (.head _))))))))))))⟩) (by kernel_rfl) fun w749 hw750 => ?_
      have hM := hM.call hw750
      replace hM := hM.p9.p9.p9.p9.p14.p14.p14.p14
      replace hM := hM.t8
      exact mid_c () ⟨rfl, rfl, rfl, rfl, rfl, rfl, trivial⟩ hM
    ·
     refine o_ex rfl fun w754 h755 => ?_
     have hM := hM.call h755
     refine x_alloc sz27 hM ?_; intro b752 w751 hR753 hM
     dsimp only [Value.cells] at hM
     refine o_nilM hM fun w757 hM => ?_
     refine wm_fork [(4, 1), (5, 1)] 8 (fun _ h' => ⟨_, _, hM.call h', (.tail _ (.tail _ (.tail _ (.tail _ (.tail _ (.tail _ (.tail _ (.head _))))))))⟩) rfl (by kernel_rfl) rfl (by kernel_rfl) ⟨?_, ?_, trivial⟩
     ·
      replace hM := hM.p1
      refine o_ex rfl fun w762 h763 => ?_
      have hM := hM.call h763
      refine x_append0 (f := fY) Tryz.underlying22 sz5 rfl rfl (hM.seeO (.tail _ (.tail _ (.tail _ (.tail _ (.tail _ (.tail _ (.head _)))))))) flY hM hg357 rfl ?_; intro s760 w759 hR761 hM
      refine o_nilM hM fun w764 hM => ?_
      refine wm_run [(5, 2)] 7 (fun _ h' => ⟨_, _, hM.call h', (.tail _ (.tail _ (.tail _ (.tail _ (.tail _ (.tail _ (.tail _ (.head _))))))))⟩) rfl rfl (by kernel_rfl) (by kernel_rfl) rfl ?_
      refine o_ex rfl fun w769 h770 => ?_
      have hM := hM.call h770
      refine x_lit (f := fY) (own := []) [0] [(.int .u8 0)] 1 Tryz.underlying22 sz5 (fun _ => rfl) rfl rfl rfl rfl rfl (by kernel_rfl) (fun _ => zP (pY hg363) zN) hM ?_; intro s767 w766 hR768 hM
      refine o_nilM hM fun w772 hM => ?_
      refine wm_run [(6, 2)] 6 (fun _ h' => ⟨_, _, hM.call h', (.tail _ (.tail _ (.tail _ (.tail _ (.tail _ (.tail _ (.tail _ (.tail _ (.head _)))))))))⟩) rfl rfl (by kernel_rfl) (by kernel_rfl) rfl ?_
      replace hM := hM.p1
      refine o_ex rfl fun w777 h778 => ?_
      have hM := hM.call h778
      refine x_append Tryz.underlying22 sz5 rfl rfl (hM.seeO (.tail _ (.head _))) flY hM hg370 rfl ?_; intro s775 w774 hM
      refine o_nilM hM fun w779 hM => ?_
      refine wm_run [(7, 2), (8, 0), (9, 0)] 3 (fun _ h' => ⟨_, _, hM.call h', (.tail _ (.tail _ (.tail _ (.tail _ (.tail _ (.tail _ (.tail _ (.tail _ (.head _)))))))))⟩) rfl rfl (by kernel_rfl) (by kernel_rfl) rfl ?_
      refine o_call rfl rfl (fun w' h' => (hM.call h').callO (l := []) fun X S oL hS hR hO => ct_impl_BytesDoc _ X S r298.name (([] ++ r314.1) ++ [0]) s775 hS (seeA hO (.head _)) oL h375) ?_
      rintro w785 h786 _ w781 ⟨⟨s782, s783, s784⟩, rfl, hM⟩
      dsimp only [List.cons_append, List.nil_append] at hM
      refine omv rfl rfl ?_
      refine ov rfl (fun w' h' => r_extract rfl rfl) ?_
      refine o_nilM hM fun w792 hM => ?_
      refine wm_free 10 2 rfl rfl (by kernel_rfl) (by kernel_rfl) rfl (fun _ _ => r_extract rfl rfl) ?_
      refine wm_run [(12, 2), (13, 0)] 0 (fun _ h' => ⟨_, _, hM.call h', (.tail _ (.tail _ (.tail _ (.tail _ (.tail _ (.tail _ (.tail _ (.tail _ (.tail _ (.tail _ (.tail _ (.head _))))))))))))⟩) rfl rfl (by kernel_rfl) (by kernel_rfl) rfl ?_
      replace hM := hM.p5
      refine o_exu fun w797 h798 => ?_
      have hM := hM.call h798
      refine x_stB #[(.string r374.1.name), (.int .i64 r374.1.from_), s782.v, s783.v, s784.v] sz27 rfl rfl rfl rfl rfl rfl hM ?_; intro w795 hM
      refine ov rfl (fun w' h' => r_assign rfl) ?_
      refine o_nilM hM fun w800 hM => ?_
      refine wm_end (fun _ h' => ⟨_, _, hM.call h', (.tail _ (.tail _ (.tail _ (.tail _ (.tail _ (.tail _ (.tail _ (.tail _ (.tail _ (.tail _ (.tail _ (.head _))))))))))))⟩) (by kernel_rfl) fun w802 hw803 => ?_
      have hM := hM.call hw803
      replace hM := hM.p9.p9.p9.p9.p14.p14.p14.p14
      replace hM := hM.t8
      exact mid_c () ⟨rfl, rfl, rfl, rfl, rfl, rfl, trivial⟩ hM
     ·
      refine o_ex rfl fun w807 h808 => ?_
      have hM := hM.call h808
      refine x_lit (f := fY) (own := []) [0] [(.int .u8 0)] 1 Tryz.underlying22 sz5 (fun _ => rfl) rfl rfl rfl rfl rfl (by kernel_rfl) (fun _ => zP (pY hg363) zN) hM ?_; intro s805 w804 hR806 hM
      refine o_nilM hM fun w810 hM => ?_
      refine wm_run [(4, 2)] 7 (fun _ h' => ⟨_, _, hM.call h', (.tail _ (.tail _ (.tail _ (.tail _ (.tail _ (.tail _ (.tail _ (.tail _ (.head _)))))))))⟩) rfl rfl (by kernel_rfl) (by kernel_rfl) rfl ?_
      replace hM := hM.p2
      refine o_ex rfl fun w815 h816 => ?_
      have hM := hM.call h816
      refine x_append0 (f := fY) Tryz.underlying22 sz5 rfl rfl (hM.seeO (.tail _ (.tail _ (.tail _ (.tail _ (.tail _ (.tail _ (.tail _ (.head _))))))))) flY hM hg357 rfl ?_; intro s813 w812 hR814 hM
      refine o_nilM hM fun w817 hM => ?_
      refine wm_run [(6, 2)] 6 (fun _ h' => ⟨_, _, hM.call h', (.tail _ (.tail _ (.tail _ (.tail _ (.tail _ (.tail _ (.tail _ (.tail _ (.head _)))))))))⟩) rfl rfl (by kernel_rfl) (by kernel_rfl) rfl ?_
      refine o_ex rfl fun w822 h823 => ?_
      have hM := hM.call h823
      refine x_append Tryz.underlying22 sz5 rfl rfl (hM.seeO (.tail _ (.head _))) flY hM hg370 rfl ?_; intro s820 w819 hM
      refine o_nilM hM fun w824 hM => ?_
      refine wm_run [(7, 2), (8, 0), (9, 0)] 3 (fun _ h' => ⟨_, _, hM.call h', (.tail _ (.tail _ (.tail _ (.tail _ (.tail _ (.tail _ (.tail _ (.tail _ (.head _)))))))))⟩) rfl rfl (by kernel_rfl) (by kernel_rfl) rfl ?_
      refine o_call rfl rfl (fun w' h' => (hM.call h').callO (l := []) fun X S oL hS hR hO => ct_impl_BytesDoc _ X S r298.name (([] ++ r314.1) ++ [0]) s820 hS (seeA hO (.head _)) oL h375) ?_
      rintro w830 h831 _ w826 ⟨⟨s827, s828, s829⟩, rfl, hM⟩
      dsimp only [List.cons_append, List.nil_append] at hM
      refine omv rfl rfl ?_
      refine ov rfl (fun w' h' => r_extract rfl rfl) ?_
      refine o_nilM hM fun w837 hM => ?_
      refine wm_free 10 2 rfl rfl (by kernel_rfl) (by kernel_rfl) rfl (fun _ _ => r_extract rfl rfl) ?_
      refine wm_run [(12, 2), (13, 0)] 0 (fun _ h' => ⟨_, _, hM.call h', (.tail _ (.tail _ (.tail _ (.tail _ (.tail _ (.tail _ (.tail _ (.tail _ (.tail _ (.tail _ (.tail _ (.head _))))))))))))⟩) rfl rfl (by kernel_rfl) (by kernel_rfl) rfl ?_
      replace hM := hM.p5
      refine o_exu fun w842 h843 => ?_
      have hM := hM.call h843
      refine x_stB #[(.string r374.1.name), (.int .i64 r374.1.from_), s827.v, s828.v, s829.v] sz27 rfl rfl rfl rfl rfl rfl hM ?_; intro w840 hM
      refine ov rfl (fun w' h' => r_assign rfl) ?_
      refine o_nilM hM fun w845 hM => ?_
      refine wm_end (fun _ h' => ⟨_, _, hM.call h', (.tail _ (.tail _ (.tail _ (.tail _ (.tail _ (.tail _ (.tail _ (.tail _ (.tail _ (.tail _ (.tail _ (.head _))))))))))))⟩) (by kernel_rfl) fun w847 hw848 => ?_
      have hM := hM.call hw848
      replace hM := hM.p9.p9.p9.p9.p14.p14.p14.p14
      replace hM := hM.t8
      exact mid_c () ⟨rfl, rfl, rfl, rfl, rfl, rfl, trivial⟩ hM
   ·
    refine o_ex rfl fun w852 h853 => ?_
    have hM := hM.call h853
    refine x_lit (f := fY) (own := []) [0] [(.int .u8 0)] 1 Tryz.underlying22 sz5 (fun _ => rfl) rfl rfl rfl rfl rfl (by kernel_rfl) (fun _ => zP (pY hg363) zN) hM ?_; intro s850 w849 hR851 hM
    refine o_nilM hM fun w855 hM => ?_
    refine wm_fork [(2, 1), (11, 1)] 9 (fun _ h' => ⟨_, _, hM.call h', (.tail _ (.tail _ (.tail _ (.tail _ (.tail _ (.tail _ (.head _)))))))⟩) rfl (by kernel_rfl) rfl (by kernel_rfl) ⟨?_, ?_, trivial⟩
    ·
     refine o_ex rfl fun w860 h861 => ?_
     have hM := hM.call h861
     refine x_empty0 (f := fY) Tryz.underlying22 sz5 (fun _ => rfl) hM ?_; intro b858 w857 hR859 hM
     replace hM : St ⟨w, X, S⟩ [oC (cSl 1 fY ([] : List UInt8)) (⟨some ⟨b858, 0, none⟩, 0, 0⟩ : Sv).v, oC (cSl 1 fY [0]) s850.v, oBox b340 #[(.string r327.1.name), (.int .i64 r327.1.from_), s330.v, s331.v, s332.v] 27, oC (cSl 1 fI r327.1.text) s330.v, oC (cSl 3 fDEntry r327.1.list) s331.v, oC (cSl 3 fDSeen r327.1.seen) s332.v, oC (cSl 1 fY r314.1) s317.v, oBox b308 #[(.string r298.name), (.int .i64 r298.from_), s301.v, s302.v, s303.v] 27, oC (cSl 1 fI r298.text) s301.v, oC (cSl 3 fDEntry r298.list) s302.v, oC (cSl 3 fDSeen r298.seen) s303.v] [rV s_code.v (cSl 1 fY code)] _ := hM
     refine o_nilM hM fun w863 hM => ?_
     refine wm_fork [(4, 1), (11, 1)] 8 (fun _ h' => ⟨_, _, hM.call h', (.tail _ (.tail _ (.tail _ (.tail _ (.tail _ (.tail _ (.tail _ (.head _))))))))⟩) rfl (by kernel_rfl) rfl (by kernel_rfl) ⟨?_, ?_, trivial⟩
     ·
      refine o_ex rfl fun w868 h869 => ?_
      have hM := hM.call h869
      refine x_append0 (f := fY) Tryz.underlying22 sz5 rfl rfl (hM.seeO (.tail _ (.tail _ (.tail _ (.tail _ (.tail _ (.tail _ (.head _)))))))) flY hM hg357 rfl ?_; intro s866 w865 hR867 hM
      refine o_nilM hM fun w870 hM => ?_
      refine wm_fork [(6, 1), (11, 1)] 7 (fun _ h' => ⟨_, _, hM.call h', (.tail _ (.tail _ (.tail _ (.tail _ (.tail _ (.tail _ (.tail _ (.head _))))))))⟩) rfl (by kernel_rfl) rfl (by kernel_rfl) ⟨?_, ?_, trivial⟩
      ·
       refine o_ex rfl fun w875 h876 => ?_
       have hM := hM.call h876
       refine x_append Tryz.underlying22 sz5 rfl rfl (hM.seeO (.tail _ (.head _))) flY hM hg370 rfl ?_; intro s873 w872 hM
       refine o_nilM hM fun w877 hM => ?_
       refine wm_fork [(7, 1), (11, 1)] 6 (fun _ h' => ⟨_, _, hM.call h', (.tail _ (.tail _ (.tail _ (.tail _ (.tail _ (.tail _ (.tail _ (.head _))))))))⟩) rfl (by kernel_rfl) rfl (by kernel_rfl) ⟨?_, ?_, trivial⟩
       ·
        refine o_call rfl rfl (fun w' h' => (hM.call h').callO (l := []) fun X S oL hS hR hO => ct_impl_BytesDoc _ X S r298.name (([] ++ r314.1) ++ [0]) s873 hS (seeA hO (.head _)) oL h375) ?_
        rintro w883 h884 _ w879 ⟨⟨s880, s881, s882⟩, rfl, hM⟩
        dsimp only [List.cons_append, List.nil_append] at hM
        refine o_nilM hM fun w888 hM => ?_
        refine wm_run [(8, 0), (9, 0)] 4 (fun _ h' => ⟨_, _, hM.call h', (.tail _ (.tail _ (.tail _ (.tail _ (.tail _ (.tail _ (.tail _ (.tail _ (.tail _ (.tail _ (.head _)))))))))))⟩) rfl rfl (by kernel_rfl) (by kernel_rfl) rfl ?_
        refine omv rfl rfl ?_
        refine ov rfl (fun w' h' => r_extract rfl rfl) ?_
        refine o_nilM hM fun w892 hM => ?_
        refine wm_free 10 3 rfl rfl (by kernel_rfl) (by kernel_rfl) rfl (fun _ _ => r_extract rfl rfl) ?_
        refine wm_run [(11, 1)] 2 (fun _ h' => ⟨_, _, hM.call h', (.tail _ (.tail _ (.tail _ (.tail _ (.tail _ (.tail _ (.tail _ (.tail _ (.tail _ (.tail _ (.head _)))))))))))⟩) rfl rfl (by kernel_rfl) (by kernel_rfl) rfl ?_
        refine o_ex1 rfl fun w898 h899 => ?_
        have hM := hM.call h899
        refine x_alloc sz27 hM ?_; intro b896 w895 hR897 hM
        refine ⟨hR897, ?_⟩
        dsimp only [Value.cells] at hM
        refine o_nilM hM fun w901 hM => ?_
        refine wm_run [(12, 2), (13, 0)] 0 (fun _ h' => ⟨_, _, hM.call h', (.tail _ (.tail _ (.tail _ (.tail _ (.tail _ (.tail _ (.tail _ (.tail _ (.tail _ (.tail _ (.tail _ (.head _))))))))))))⟩) rfl rfl (by kernel_rfl) (by kernel_rfl) rfl ?_
        refine o_exu fun w905 h906 => ?_
        have hM := hM.call h906
        refine x_stB #[(.string r374.1.name), (.int .i64 r374.1.from_), s880.v, s881.v, s882.v] sz27 rfl rfl rfl rfl rfl rfl hM ?_; intro w903 hM
        refine ov rfl (fun w' h' => r_assign rfl) ?_
        refine o_nilM hM fun w908 hM => ?_
        refine wm_end (fun _ h' => ⟨_, _, hM.call h', (.tail _ (.tail _ (.tail _ (.tail _ (.tail _ (.tail _ (.tail _ (.tail _ (.tail _ (.tail _ (.tail _ (.head _))))))))))))⟩) (by kernel_rfl) fun w910 hw911 => ?_
        have hM := hM.call hw911
        replace hM := hM.p9.p9.p9.p9.p14.p14.p14.p14
        replace hM := hM.t8
        exact mid_c () ⟨rfl, rfl, rfl, rfl, rfl, rfl, trivial⟩ hM
       ·
        refine o_ex rfl fun w915 h916 => ?_
        have hM := hM.call h916
        refine x_alloc sz27 hM ?_; intro b913 w912 hR914 hM
        dsimp only [Value.cells] at hM
        refine o_nilM hM fun w918 hM => ?_
        refine wm_run [(7, 2), (8, 0), (9, 0)] 3 (fun _ h' => ⟨_, _, hM.call h', (.tail _ (.tail _ (.tail _ (.tail _ (.tail _ (.tail _ (.tail _ (.tail _ (.head _)))))))))⟩) rfl rfl (by kernel_rfl) (by kernel_rfl) rfl ?_
        refine o_call rfl rfl (fun w' h' => (hM.call h').callO (l := []) fun X S oL hS hR hO => ct_impl_BytesDoc _ X S r298.name (([] ++ r314.1) ++ [0]) s873 hS (seeA hO (.tail _ (.head _))) oL h375) ?_
        rintro w924 h925 _ w920 ⟨⟨s921, s922, s923⟩, rfl, hM⟩
        dsimp only [List.cons_append, List.nil_append] at hM
        refine omv rfl rfl ?_
        refine ov rfl (fun w' h' => r_extract rfl rfl) ?_
        refine o_nilM hM fun w931 hM => ?_
        refine wm_free 10 2 rfl rfl (by kernel_rfl) (by kernel_rfl) rfl (fun _ _ => r_extract rfl rfl) ?_
        refine wm_run [(12, 2), (13, 0)] 0 (fun _ h' => ⟨_, _, hM.call h', (.tail _ (.tail _ (.tail _ (.tail _ (.tail _ (.tail _ (.tail _ (.tail _ (.tail _ (.tail _ (.tail _ (.head _))))))))))))⟩) rfl rfl (by kernel_rfl) (by kernel_rfl) rfl ?_
        replace hM := hM.p3
        refine o_exu fun w936 h937 => ?_
        have hM := hM.call h937
        refine x_stB #[(.string r374.1.name), (.int .i64 r374.1.from_), s921.v, s922.v, s923.v] sz27 rfl rfl rfl rfl rfl rfl hM ?_; intro w934 hM
        refine ov rfl (fun w' h' => r_assign rfl) ?_
        refine o_nilM hM fun w939 hM => ?_
        refine wm_end (fun _ h' => ⟨_, _, hM.call h', (.tail _ (.tail _ (.tail _ (.tail _ (.tail _ (.tail _ (.tail _ (.tail _ (.tail _ (.tail _ (.tail _ (.head _))))))))))))⟩) (by kernel_rfl) fun w941 hw942 => ?_
        have hM := hM.call hw942
        replace hM := hM.p9.p9.p9.p9.p14.p14.p14.p14
        replace hM := hM.t8
        exact mid_c () ⟨rfl, rfl, rfl, rfl, rfl, rfl, trivial⟩ hM
      ·
       refine o_ex rfl fun w946 h947 => ?_
       have hM := hM.call h947
       refine x_alloc sz27 hM ?_; intro b944 w943 hR945 hM
       dsimp only [Value.cells] at hM
       refine o_nilM hM fun w949 hM => ?_
       refine wm_run [(6, 2)] 6 (fun _ h' => ⟨_, _, hM.call h', (.tail _ (.tail _ (.tail _ (.tail _ (.tail _ (.tail _ (.tail _ (.tail _ (.head _)))))))))⟩) rfl rfl (by kernel_rfl) (by kernel_rfl) rfl ?_
       replace hM := hM.p1
       refine o_ex rfl fun w954 h955 => ?_
       have hM := hM.call h955
       refine x_append Tryz.underlying22 sz5 rfl rfl (hM.seeO (.tail _ (.tail _ (.head _)))) flY hM hg370 rfl ?_; intro s952 w951 hM
       refine o_nilM hM fun w956 hM => ?_
       refine wm_run [(7, 2), (8, 0), (9, 0)] 3 (fun _ h' => ⟨_, _, hM.call h', (.tail _ (.tail _ (.tail _ (.tail _ (.tail _ (.tail _ (.tail _ (.tail _ (.head _)))))))))⟩) rfl rfl (by kernel_rfl) (by kernel_rfl) rfl ?_
       refine o_call rfl rfl (fun w' h' => (hM.call h').callO (l := []) fun X S oL hS hR hO => ct_impl_BytesDoc _ X S r298.name (([] ++ r314.1) ++ [0]) s952 hS (seeA hO (.head _)) oL h375) ?_
       rintro w962 h963 _ w958 ⟨⟨s959, s960, s961⟩, rfl, hM⟩
       dsimp only [List.cons_append, List.nil_append] at hM
       refine omv rfl rfl ?_
       refine ov rfl (fun w' h' => r_extract rfl rfl) ?_
       refine o_nilM hM fun w969 hM => ?_
       refine wm_free 10 2 rfl rfl (by kernel_rfl) (by kernel_rfl) rfl (fun _ _ => r_extract rfl rfl) ?_
       refine wm_run [(12, 2), (13, 0)] 0 (fun _ h' => ⟨_, _, hM.call h', (.tail _ (.tail _ (.tail _ (.tail _ (.tail _ (.tail _ (.tail _ (.tail _ (.tail _ (.tail _ (.tail _ (.head _))))))))))))⟩) rfl rfl (by kernel_rfl) (by kernel_rfl) rfl ?_
       replace hM := hM.p4
       refine o_exu fun w974 h975 => ?_
       have hM := hM.call h975
       refine x_stB #[(.string r374.1.name), (.int .i64 r374.1.from_), s959.v, s960.v, s961.v] sz27 rfl rfl rfl rfl rfl rfl hM ?_; intro w972 hM
       refine ov rfl (fun w' h' => r_assign rfl) ?_
       refine o_nilM hM fun w977 hM => ?_
       refine wm_end (fun _ h' => ⟨_, _, hM.call h', (.tail _ (.tail _ (.tail _ (.tail _ (.tail _ (.tail _ (.tail _ (.tail _ (.tail _ (.tail _ (.tail _ (.head _))))))))))))⟩) (by kernel_rfl) fun w979 hw980 => ?_
       have hM := hM.call hw980
       replace hM := hM.p9.p9.p9.p9.p14.p14.p14.p14
       replace hM := hM.t8
       exact mid_c () ⟨rfl, rfl, rfl, rfl, rfl, rfl, trivial⟩ hM
     ·
      refine o_ex rfl fun w984 h985 => ?_
      have hM := hM.call h985
      refine x_alloc sz27 hM ?_; intro b982 w981 hR983 hM
      dsimp only [Value.cells] at hM
      refine o_nilM hM fun w987 hM => ?_
      refine wm_run [(4, 2)] 7 (fun _ h' => ⟨_, _, hM.call h', (.tail _ (.tail _ (.tail _ (.tail _ (.tail _ (.tail _ (.tail _ (.tail _ (.head _)))))))))⟩) rfl rfl (by kernel_rfl) (by kernel_rfl) rfl ?_
      replace hM := hM.p1
      refine o_ex rfl fun w992 h993 => ?_
      have hM := hM.call h993
      refine x_append0 (f := fY) Tryz.underlying22 sz5 rfl rfl (hM.seeO (.tail _ (.tail _ (.tail _ (.tail _ (.tail _ (.tail _ (.tail _ (.head _))))))))) flY hM hg357 rfl ?_; intro s990 w989 hR991 hM
      refine o_nilM hM fun w994 hM => ?_
      refine wm_run [(6, 2)] 6 (fun _ h' => ⟨_, _, hM.call h', (.tail _ (.tail _ (.tail _ (.tail _ (.tail _ (.tail _ (.tail _ (.tail _ (.head _)))))))))⟩) rfl rfl (by kernel_rfl) (by kernel_rfl) rfl ?_
      refine o_ex rfl fun w999 h1000 => ?_
      have hM := hM.call h1000
      refine x_append Tryz.underlying22 sz5 rfl rfl (hM.seeO (.tail _ (.tail _ (.head _)))) flY hM hg370 rfl ?_; intro s997 w996 hM
      refine o_nilM hM fun w1001 hM => ?_
      refine wm_run [(7, 2), (8, 0), (9, 0)] 3 (fun _ h' => ⟨_, _, hM.call h', (.tail _ (.tail _ (.tail _ (.tail _ (.tail _ (.tail _ (.tail _ (.tail _ (.head _)))))))))⟩) rfl rfl (by kernel_rfl) (by kernel_rfl) rfl ?_
      refine o_call rfl rfl (fun w' h' => (hM.call h').callO (l := []) fun X S oL hS hR hO => ct_impl_BytesDoc _ X S r298.name (([] ++ r314.1) ++ [0]) s997 hS (seeA hO (.head _)) oL h375) ?_
      rintro w1007 h1008 _ w1003 ⟨⟨s1004, s1005, s1006⟩, rfl, hM⟩
      dsimp only [List.cons_append, List.nil_append] at hM
      refine omv rfl rfl ?_
      refine ov rfl (fun w' h' => r_extract rfl rfl) ?_
      refine o_nilM hM fun w1014 hM => ?_
      refine wm_free 10 2 rfl rfl (by kernel_rfl) (by kernel_rfl) rfl (fun _ _ => r_extract rfl rfl) ?_
      refine wm_run [(12, 2), (13, 0)] 0 (fun _ h' => ⟨_, _, hM.call h', (.tail _ (.tail _ (.tail _ (.tail _ (.tail _ (.tail _ (.tail _ (.tail _ (.tail _ (.tail _ (.tail _ (.head _))))))))))))⟩) rfl rfl (by kernel_rfl) (by kernel_rfl) rfl ?_
      replace hM := hM.p4
      refine o_exu fun w1019 h1020 => ?_
      have hM := hM.call h1020
      refine x_stB #[(.string r374.1.name), (.int .i64 r374.1.from_), s1004.v, s1005.v, s1006.v] sz27 rfl rfl rfl rfl rfl rfl hM ?_; intro w1017 hM
      refine ov rfl (fun w' h' => r_assign rfl) ?_
      refine o_nilM hM fun w1022 hM => ?_
      refine wm_end (fun _ h' => ⟨_, _, hM.call h', (.tail _ (.tail _ (.tail _ (.tail _ (.tail _ (.tail _ (.tail _ (.tail _ (.tail _ (.tail _ (.tail _ (.head _))))))))))))⟩) (by kernel_rfl) fun w1024 hw1025 => ?_
      have hM := hM.call hw1025
      replace hM := hM.p9.p9.p9.p9.p14.p14.p14.p14
      replace hM := hM.t8
      exact mid_c () ⟨rfl, rfl, rfl, rfl, rfl, rfl, trivial⟩ hM
    ·
     refine o_ex rfl fun w1029 h1030 => ?_
     have hM := hM.call h1030
     refine x_alloc sz27 hM ?_; intro b1027 w1026 hR1028 hM
     dsimp only [Value.cells] at hM
     refine o_nilM hM fun w1032 hM => ?_
     refine wm_run [(2, 2)] 8 (fun _ h' => ⟨_, _, hM.call h', (.tail _ (.tail _ (.tail _ (.tail _ (.tail _ (.tail _ (.tail _ (.head _))))))))⟩) rfl rfl (by kernel_rfl) (by kernel_rfl) rfl ?_
     refine o_ex rfl fun w1037 h1038 => ?_
     have hM := hM.call h1038
     refine x_empty0 (f := fY) Tryz.underlying22 sz5 (fun _ => rfl) hM ?_; intro b1035 w1034 hR1036 hM
     replace hM : St ⟨w, X, S⟩ [oC (cSl 1 fY ([] : List UInt8)) (⟨some ⟨b1035, 0, none⟩, 0, 0⟩ : Sv).v, oBox b1027 #[(.string ByteArray.empty), (.int .i64 0), (.slice none 0 0), (.slice none 0 0), (.slice none 0 0)] 27, oC (cSl 1 fY [0]) s850.v, oBox b340 #[(.string r327.1.name), (.int .i64 r327.1.from_), s330.v, s331.v, s332.v] 27, oC (cSl 1 fI r327.1.text) s330.v, oC (cSl 3 fDEntry r327.1.list) s331.v, oC (cSl 3 fDSeen r327.1.seen) s332.v, oC (cSl 1 fY r314.1) s317.v, oBox b308 #[(.string r298.name), (.int .i64 r298.from_), s301.v, s302.v, s303.v] 27, oC (cSl 1 fI r298.text) s301.v, oC (cSl 3 fDEntry r298.list) s302.v, oC (cSl 3 fDSeen r298.seen) s303.v] [rV s_code.v (cSl 1 fY code)] _ := hM
     refine o_nilM hM fun w1040 hM => ?_
     refine wm_run [(4, 2)] 7 (fun _ h' => ⟨_, _, hM.call h', (.tail _ (.tail _ (.tail _ (.tail _ (.tail _ (.tail _ (.tail _ (.tail _ (.head _)))))))))⟩) rfl rfl (by kernel_rfl) (by kernel_rfl) rfl ?_
     refine o_ex rfl fun w1045 h1046 => ?_
     have hM := hM.call h1046
     refine x_append0 (f := fY) Tryz.underlying22 sz5 rfl rfl (hM.seeO (.tail _ (.tail _ (.tail _ (.tail _ (.tail _ (.tail _ (.tail _ (.head _))))))))) flY hM hg357 rfl ?_; intro s1043 w1042 hR1044 hM
     refine o_nilM hM fun w1047 hM => ?_
     refine wm_run [(6, 2)] 6 (fun _ h' => ⟨_, _, hM.call h', (.tail _ (.tail _ (.tail _ (.tail _ (.tail _ (.tail _ (.tail _ (.tail _ (.head _)))))))))⟩) rfl rfl (by kernel_rfl) (by kernel_rfl) rfl ?_
     refine o_ex rfl fun w1052 h1053 => ?_
     have hM := hM.call h1053
     refine x_append Tryz.underlying22 sz5 rfl rfl (hM.seeO (.tail _ (.tail _ (.head _)))) flY hM hg370 rfl ?_; intro s1050 w1049 hM
     refine o_nilM hM fun w1054 hM => ?_
     refine wm_run [(7, 2), (8, 0), (9, 0)] 3 (fun _ h' => ⟨_, _, hM.call h', (.tail _ (.tail _ (.tail _ (.tail _ (.tail _ (.tail _ (.tail _ (.tail _ (.head _)))))))))⟩) rfl rfl (by kernel_rfl) (by kernel_rfl) rfl ?_
     refine o_call rfl rfl (fun w' h' => (hM.call h').callO (l := []) fun X S oL hS hR hO => ct_impl_BytesDoc _ X S r298.name (([] ++ r314.1) ++ [0]) s1050 hS (seeA hO (.head _)) oL h375) ?_
     rintro w1060 h1061 _ w1056 ⟨⟨s1057, s1058, s1059⟩, rfl, hM⟩
     dsimp only [List.cons_append, List.nil_append] at hM
     refine omv rfl rfl ?_
     refine ov rfl (fun w' h' => r_extract rfl rfl) ?_
     refine o_nilM hM fun w1067 hM => ?_
     refine wm_free 10 2 rfl rfl (by kernel_rfl) (by kernel_rfl) rfl (fun _ _ => r_extract rfl rfl) ?_
     refine wm_run [(12, 2), (13, 0)] 0 (fun _ h' => ⟨_, _, hM.call h', (.tail _ (.tail _ (.tail _ (.tail _ (.tail _ (.tail _ (.tail _ (.tail _ (.tail _ (.tail _ (.tail _ (.head _))))))))))))⟩) rfl rfl (by kernel_rfl) (by kernel_rfl) rfl ?_
     replace hM := hM.p4
     refine o_exu fun w1072 h1073 => ?_
     have hM := hM.call h1073
     refine x_stB #[(.string r374.1.name), (.int .i64 r374.1.from_), s1057.v, s1058.v, s1059.v] sz27 rfl rfl rfl rfl rfl rfl hM ?_; intro w1070 hM
     refine ov rfl (fun w' h' => r_assign rfl) ?_
     refine o_nilM hM fun w1075 hM => ?_
     refine wm_end (fun _ h' => ⟨_, _, hM.call h', (.tail _ (.tail _ (.tail _ (.tail _ (.tail _ (.tail _ (.tail _ (.tail _ (.tail _ (.tail _ (.tail _ (.head _))))))))))))⟩) (by kernel_rfl) fun w1077 hw1078 => ?_
     have hM := hM.call hw1078
     replace hM := hM.p9.p9.p9.p9.p14.p14.p14.p14
     replace hM := hM.t8
     exact mid_c () ⟨rfl, rfl, rfl, rfl, rfl, rfl, trivial⟩ hM
   ·
    refine o_ex rfl fun w1082 h1083 => ?_
    have hM := hM.call h1083
    refine x_alloc sz27 hM ?_; intro b1080 w1079 hR1081 hM
    dsimp only [Value.cells] at hM
    refine o_nilM hM fun w1085 hM => ?_
    refine wm_fork [(2, 1), (5, 1)] 9 (fun _ h' => ⟨_, _, hM.call h', (.tail _ (.tail _ (.tail _ (.tail _ (.tail _ (.tail _ (.head _)))))))⟩) rfl (by kernel_rfl) rfl (by kernel_rfl) ⟨?_, ?_, trivial⟩
    ·
     refine o_ex rfl fun w1090 h1091 => ?_
     have hM := hM.call h1091
     refine x_empty0 (f := fY) Tryz.underlying22 sz5 (fun _ => rfl) hM ?_; intro b1088 w1087 hR1089 hM
     replace hM : St ⟨w, X, S⟩ [oC (cSl 1 fY ([] : List UInt8)) (⟨some ⟨b1088, 0, none⟩, 0, 0⟩ : Sv).v, oBox b1080 #[(.string ByteArray.empty), (.int .i64 0), (.slice none 0 0), (.slice none 0 0), (.slice none 0 0)] 27, oBox b340 #[(.string r327.1.name), (.int .i64 r327.1.from_), s330.v, s331.v, s332.v] 27, oC (cSl 1 fI r327.1.text) s330.v, oC (cSl 3 fDEntry r327.1.list) s331.v, oC (cSl 3 fDSeen r327.1.seen) s332.v, oC (cSl 1 fY r314.1) s317.v, oBox b308 #[(.string r298.name), (.int .i64 r298.from_), s301.v, s302.v, s303.v] 27, oC (cSl 1 fI r298.text) s301.v, oC (cSl 3 fDEntry r298.list) s302.v, oC (cSl 3 fDSeen r298.seen) s303.v] [rV s_code.v (cSl 1 fY code)] _ := hM
     refine o_nilM hM fun w1093 hM => ?_
     refine wm_fork [(4, 1), (5, 1)] 8 (fun _ h' => ⟨_, _, hM.call h', (.tail _ (.tail _ (.tail _ (.tail _ (.tail _ (.tail _ (.tail _ (.head _))))))))⟩) rfl (by kernel_rfl) rfl (by kernel_rfl) ⟨?_, ?_, trivial⟩
     ·
      refine o_ex rfl fun w1098 h1099 => ?_
      have hM := hM.call h1099
      refine x_append0 (f := fY) Tryz.underlying22 sz5 rfl rfl (hM.seeO (.tail _ (.tail _ (.tail _ (.tail _ (.tail _ (.tail _ (.head _)))))))) flY hM hg357 rfl ?_; intro s1096 w1095 hR1097 hM
      refine o_nilM hM fun w1100 hM => ?_
      refine wm_run [(5, 2)] 7 (fun _ h' => ⟨_, _, hM.call h', (.tail _ (.tail _ (.tail _ (.tail _ (.tail _ (.tail _ (.tail _ (.head _))))))))⟩) rfl rfl (by kernel_rfl) (by kernel_rfl) rfl ?_
      refine o_ex rfl fun w1105 h1106 => ?_
      have hM := hM.call h1106
      refine x_lit (f := fY) (own := []) [0] [(.int .u8 0)] 1 Tryz.underlying22 sz5 (fun _ => rfl) rfl rfl rfl rfl rfl (by kernel_rfl) (fun _ => zP (pY hg363) zN) hM ?_; intro s1103 w1102 hR1104 hM
      refine o_nilM hM fun w1108 hM => ?_
      refine wm_run [(6, 2)] 6 (fun _ h' => ⟨_, _, hM.call h', (.tail _ (.tail _ (.tail _ (.tail _ (.tail _ (.tail _ (.tail _ (.tail _ (.head _)))))))))⟩) rfl rfl (by kernel_rfl) (by kernel_rfl) rfl ?_
      replace hM := hM.p1
      refine o_ex rfl fun w1113 h1114 => ?_
      have hM := hM.call h1114
      refine x_append Tryz.underlying22 sz5 rfl rfl (hM.seeO (.tail _ (.head _))) flY hM hg370 rfl ?_; intro s1111 w1110 hM
      refine o_nilM hM fun w1115 hM => ?_
      refine wm_run [(7, 2), (8, 0), (9, 0)] 3 (fun _ h' => ⟨_, _, hM.call h', (.tail _ (.tail _ (.tail _ (.tail _ (.tail _ (.tail _ (.tail _ (.tail _ (.head _)))))))))⟩) rfl rfl (by kernel_rfl) (by kernel_rfl) rfl ?_
      refine o_call rfl rfl (fun w' h' => (hM.call h').callO (l := []) fun X S oL hS hR hO => ct_impl_BytesDoc _ X S r298.name (([] ++ r314.1) ++ [0]) s1111 hS (seeA hO (.head _)) oL h375) ?_
      rintro w1121 h1122 _ w1117 ⟨⟨s1118, s1119, s1120⟩, rfl, hM⟩
      dsimp only [List.cons_append, List.nil_append] at hM
      refine omv rfl rfl ?_
      refine ov rfl (fun w' h' => r_extract rfl rfl) ?_
      refine o_nilM hM fun w1128 hM => ?_
      refine wm_free 10 2 rfl rfl (by kernel_rfl) (by kernel_rfl) rfl (fun _ _ => r_extract rfl rfl) ?_
      refine wm_run [(12, 2), (13, 0)] 0 (fun _ h' => ⟨_, _, hM.call h', (.tail _ (.tail _ (.tail _ (.tail _ (.tail _ (.tail _ (.tail _ (.tail _ (.tail _ (.tail _ (.tail _ (.head _))))))))))))⟩) rfl rfl (by kernel_rfl) (by kernel_rfl) rfl ?_
      replace hM := hM.p5
      refine o_exu fun w1133 h1134 => ?_
      have hM := hM.call h1134
      refine x_stB #[(.string r374.1.name), (.int .i64 r374.1.from_), s1118.v, s1119.v, s1120.v] sz27 rfl rfl rfl rfl rfl rfl hM ?_; intro w1131 hM
      refine ov rfl (fun w' h' => r_assign rfl) ?_
      refine o_nilM hM fun w1136 hM => ?_
      refine wm_end (fun _ h' => ⟨_, _, hM.call h', (.tail _ (.tail _ (.tail _ (.tail _ (.tail _ (.tail _ (.tail _ (.tail _ (.tail _ (.tail _ (.tail _ (.head _))))))))))))⟩) (by kernel_rfl) fun w1138 hw1139 => ?_
      have hM := hM.call hw1139
      replace hM := hM.p9.p9.p9.p9.p14.p14.p14.p14
      replace hM := hM.t8
      exact mid_c () ⟨rfl, rfl, rfl, rfl, rfl, rfl, trivial⟩ hM
     ·
      refine o_ex rfl fun w1143 h1144 => ?_
      have hM := hM.call h1144
      refine x_lit (f := fY) (own := []) [0] [(.int .u8 0)] 1 Tryz.underlying22 sz5 (fun _ => rfl) rfl rfl rfl rfl rfl (by kernel_rfl) (fun _ => zP (pY hg363) zN) hM ?_; intro s1141 w1140 hR1142 hM
      refine o_nilM hM fun w1146 hM => ?_
      refine wm_run [(4, 2)] 7 (fun _ h' => ⟨_, _, hM.call h', (.tail _ (.tail _ (.tail _ (.tail _ (.tail _ (.tail _ (.tail _ (.tail _ (.head _)))))))))⟩) rfl rfl (by kernel_rfl) (by kernel_rfl) rfl ?_
      replace hM := hM.p1
      refine o_ex rfl fun w1151 h1152 => ?_
      have hM := hM.call h1152
      refine x_append0 (f := fY) Tryz.underlying22 sz5 rfl rfl (hM.seeO (.tail _ (.tail _ (.tail _ (.tail _ (.tail _ (.tail _ (.tail _ (.head _))))))))) flY hM hg357 rfl ?_; intro s1149 w1148 hR1150 hM
      refine o_nilM hM fun w1153 hM => ?_
      refine wm_run [(6, 2)] 6 (fun _ h' => ⟨_, _, hM.call h', (.tail _ (.tail _ (.tail _ (.tail _ (.tail _ (.tail _ (.tail _ (.tail _ (.head _)))))))))⟩) rfl rfl (by kernel_rfl) (by kernel_rfl) rfl ?_
      refine o_ex rfl fun w1158 h1159 => ?_
      have hM := hM.call h1159
      refine x_append Tryz.underlying22 sz5 rfl rfl (hM.seeO (.tail _ (.head _))) flY hM hg370 rfl ?_; intro s1156 w1155 hM
      refine o_nilM hM fun w1160 hM => ?_
      refine wm_run [(7, 2), (8, 0), (9, 0)] 3 (fun _ h' => ⟨_, _, hM.call h', (.tail _ (.tail _ (.tail _ (.tail _ (.tail _ (.tail _ (.tail _ (.tail _ (.head _)))))))))⟩) rfl rfl (by kernel_rfl) (by kernel_rfl) rfl ?_
      refine o_call rfl rfl (fun w' h' => (hM.call h').callO (l := []) fun X S oL hS hR hO => ct_impl_BytesDoc _ X S r298.name (([] ++ r314.1) ++ [0]) s1156 hS (seeA hO (.head _)) oL h375) ?_
      rintro w1166 h1167 _ w1162 ⟨⟨s1163, s1164, s1165⟩, rfl, hM⟩
      dsimp only [List.cons_append, List.nil_append] at hM
      refine omv rfl rfl ?_
      refine ov rfl (fun w' h' => r_extract rfl rfl) ?_
      refine o_nilM hM fun w1173 hM => ?_
      refine wm_free 10 2 rfl rfl (by kernel_rfl) (by kernel_rfl) rfl (fun _ _ => r_extract rfl rfl) ?_
      refine wm_run [(12, 2), (13, 0)] 0 (fun _ h' => ⟨_, _, hM.call h', (.tail _ (.tail _ (.tail _ (.tail _ (.tail _ (.tail _ (.tail _ (.tail _ (.tail _ (.tail _ (.tail _ (.head _))))))))))))⟩) rfl rfl (by kernel_rfl) (by kernel_rfl) rfl ?_
      replace hM := hM.p5
      refine o_exu fun w1178 h1179 => ?_
      have hM := hM.call h1179
      refine x_stB #[(.string r374.1.name), (.int .i64 r374.1.from_), s1163.v, s1164.v, s1165.v] sz27 rfl rfl rfl rfl rfl rfl hM ?_; intro w1176 hM
      refine ov rfl (fun w' h' => r_assign rfl) ?_
      refine o_nilM hM fun w1181 hM => ?_
      refine wm_end (fun _ h' => ⟨_, _, hM.call h', (.tail _ (.tail _ (.tail _ (.tail _ (.tail _ (.tail _ (.tail _ (.tail _ (.tail _ (.tail _ (.tail _ (.head _))))))))))))⟩) (by kernel_rfl) fun w1183 hw1184 => ?_
      have hM := hM.call hw1184
      replace hM := hM.p9.p9.p9.p9.p14.p14.p14.p14
      replace hM := hM.t8
      exact mid_c () ⟨rfl, rfl, rfl, rfl, rfl, rfl, trivial⟩ hM
    ·
     refine o_ex rfl fun w1188 h1189 => ?_
     have hM := hM.call h1189
     refine x_lit (f := fY) (own := []) [0] [(.int .u8 0)] 1 Tryz.underlying22 sz5 (fun _ => rfl) rfl rfl rfl rfl rfl (by kernel_rfl) (fun _ => zP (pY hg363) zN) hM ?_; intro s1186 w1185 hR1187 hM
     refine o_nilM hM fun w1191 hM => ?_
     refine wm_run [(2, 2)] 8 (fun _ h' => ⟨_, _, hM.call h', (.tail _ (.tail _ (.tail _ (.tail _ (.tail _ (.tail _ (.tail _ (.head _))))))))⟩) rfl rfl (by kernel_rfl) (by kernel_rfl) rfl ?_
     refine o_ex rfl fun w1196 h1197 => ?_
     have hM := hM.call h1197
     refine x_empty0 (f := fY) Tryz.underlying22 sz5 (fun _ => rfl) hM ?_; intro b1194 w1193 hR1195 hM
     replace hM : St ⟨w, X, S⟩ [oC (cSl 1 fY ([] : List UInt8)) (⟨some ⟨b1194, 0, none⟩, 0, 0⟩ : Sv).v, oC (cSl 1 fY [0]) s1186.v, oBox b1080 #[(.string ByteArray.empty), (.int .i64 0), (.slice none 0 0), (.slice none 0 0), (.slice none 0 0)] 27, oBox b340 #[(.string r327.1.name), (.int .i64 r327.1.from_), s330.v, s331.v, s332.v] 27, oC (cSl 1 fI r327.1.text) s330.v, oC (cSl 3 fDEntry r327.1.list) s331.v, oC (cSl 3 fDSeen r327.1.seen) s332.v, oC (cSl 1 fY r314.1) s317.v, oBox b308 #[(.string r298.name), (.int .i64 r298.from_), s301.v, s302.v, s303.v] 27, oC (cSl 1 fI r298.text) s301.v, oC (cSl 3 fDEntry r298.list) s302.v, oC (cSl 3 fDSeen r298.seen) s303.v] [rV s_code.v (cSl 1 fY code)] _ := hM
     refine o_nilM hM fun w1199 hM => ?_
     refine wm_run [(4, 2)] 7 (fun _ h' => ⟨_, _, hM.call h', (.tail _ (.tail _ (.tail _ (.tail _ (.tail _ (.tail _ (.tail _ (.tail _ (.head _)))))))))⟩) rfl rfl (by kernel_rfl) (by kernel_rfl) rfl ?_
     refine o_ex rfl fun w1204 h1205 => ?_
     have hM := hM.call h1205
     refine x_append0 (f := fY) Tryz.underlying22 sz5 rfl rfl (hM.seeO (.tail _ (.tail _ (.tail _ (.tail _ (.tail _ (.tail _ (.tail _ (.head _))))))))) flY hM hg357 rfl ?_; intro s1202 w1201 hR1203 hM
     refine o_nilM hM fun w1206 hM => ?_
     refine wm_run [(6, 2)] 6 (fun _ h' => ⟨_, _, hM.call h', (.tail _ (.tail _ (.tail _ (.tail _ (.tail _ (.tail _ (.tail _ (.tail _ (.head _)))))))))⟩) rfl rfl (by kernel_rfl) (by kernel_rfl) rfl ?_
     refine o_ex rfl fun w1211 h1212 => ?_
     have hM := hM.call h1212
     refine x_append Tryz.underlying22 sz5 rfl rfl (hM.seeO (.tail _ (.head _))) flY hM hg370 rfl ?_; intro s1209 w1208 hM
     refine o_nilM hM fun w1213 hM => ?_
     refine wm_run [(7, 2), (8, 0), (9, 0)] 3 (fun _ h' => ⟨_, _, hM.call h', (.tail _ (.tail _ (.tail _ (.tail _ (.tail _ (.tail _ (.tail _ (.tail _ (.head _)))))))))⟩) rfl rfl (by kernel_rfl) (by kernel_rfl) rfl ?_
     refine o_call rfl rfl (fun w' h' => (hM.call h').callO (l := []) fun X S oL hS hR hO => ct_impl_BytesDoc _ X S r298.name (([] ++ r314.1) ++ [0]) s1209 hS (seeA hO (.head _)) oL h375) ?_
     rintro w1219 h1220 _ w1215 ⟨⟨s1216, s1217, s1218⟩, rfl, hM⟩
     dsimp only [List.cons_append, List.nil_append] at hM
     refine omv rfl rfl ?_
     refine ov rfl (fun w' h' => r_extract rfl rfl) ?_
     refine o_nilM hM fun w1226 hM => ?_
     refine wm_free 10 2 rfl rfl (by kernel_rfl) (by kernel_rfl) rfl (fun _ _ => r_extract rfl rfl) ?_
     refine wm_run [(12, 2), (13, 0)] 0 (fun _ h' => ⟨_, _, hM.call h', (.tail _ (.tail _ (.tail _ (.tail _ (.tail _ (.tail _ (.tail _ (.tail _ (.tail _ (.tail _ (.tail _ (.head _))))))))))))⟩) rfl rfl (by kernel_rfl) (by kernel_rfl) rfl ?_
     replace hM := hM.p5
     refine o_exu fun w1231 h1232 => ?_
     have hM := hM.call h1232
     refine x_stB #[(.string r374.1.name), (.int .i64 r374.1.from_), s1216.v, s1217.v, s1218.v] sz27 rfl rfl rfl rfl rfl rfl hM ?_; intro w1229 hM
     refine ov rfl (fun w' h' => r_assign rfl) ?_
     refine o_nilM hM fun w1234 hM => ?_
     refine wm_end (fun _ h' => ⟨_, _, hM.call h', (.tail _ (.tail _ (.tail _ (.tail _ (.tail _ (.tail _ (.tail _ (.tail _ (.tail _ (.tail _ (.tail _ (.head _))))))))))))⟩) (by kernel_rfl) fun w1236 hw1237 => ?_
     have hM := hM.call hw1237
     replace hM := hM.p9.p9.p9.p9.p14.p14.p14.p14
     replace hM := hM.t8
     exact mid_c () ⟨rfl, rfl, rfl, rfl, rfl, rfl, trivial⟩ hM
  rintro u w1238 hM
  refine sq_n ?_
  refine wc_sr ?_
  refine wmv rfl rfl ?_
  obtain ⟨r1240, h1241, hx⟩ := bind_some' hx
  refine w_call rfl rfl (hM.callO (l := []) fun X S oL hS hR hO => ct_spec_MakeOp _ X S code s_code (7 : Int) hS (hR _ (.head _)) oL h1241) ?_
  rintro _ w1242 ⟨s1243, rfl, hM⟩
  dsimp only [List.cons_append, List.nil_append] at hM
  refine was rfl rfl ?_
  refine wl_sq ?_
  refine wc_sr ?_
  obtain ⟨hg1248, hx⟩ := xg_some hx
  refine w_ex rfl (x_lit (f := fY) (own := []) [1] [(.int .u8 1)] 1 Tryz.underlying22 sz5 (fun _ => rfl) rfl rfl rfl rfl rfl (by kernel_rfl) (fun _ => zP (pY hg1248) zN) hM ?_); intro s1247 w1246 hR1249 hM
  refine wmv rfl rfl ?_
  obtain ⟨r1252, h1253, hx⟩ := bind_some' hx
  refine w_call rfl rfl (hM.callO (l := []) fun X S oL hS hR hO => ct_impl_PutOp _ X S [1] s1247 r1240 s1243 hS (seeA hO (.head _)) (seeA hO (.tail _ (.head _))) oL h1253) ?_
  rintro _ w1254 ⟨s1255, rfl, hM⟩
  dsimp only [List.cons_append, List.nil_append] at hM
  refine wmv rfl rfl ?_
  refine wv rfl (r_extract rfl rfl) ?_
  refine wv rfl (r_extract rfl rfl) ?_
  refine was rfl rfl ?_
  refine was rfl rfl ?_
  refine wl_sq ?_
  refine wc_sr ?_
  refine w_ex rfl (x_empty (f := fY) Tryz.underlying22 sz5 (fun _ => rfl) hM ?_); intro s1263 w1262 hR1264 hM
  refine wmv rfl rfl ?_
  obtain ⟨hg1269, hx⟩ := xg_some hx
  refine w_ex rfl (x_append Tryz.underlying22 sz5 rfl rfl (hM.seeO (.tail _ (.head _))) flY hM hg1269 rfl ?_); intro s1268 w1267 hM
  obtain ⟨hg1274, hx⟩ := xg_some hx
  obtain ⟨hg1275, hx⟩ := xg_some hx
  refine w_push (f := fY) 9 rfl rfl Tryz.underlying22 sz5 rfl rfl rfl rfl (fun _ => rfl) hM (fun _ => zP (pY hg1274) zN) rfl hg1275 rfl ?_; intro u1272 s1273 w1271 hM
  obtain ⟨r1276, h1277, hx⟩ := bind_some' hx
  refine w_call rfl rfl (hM.callO (l := []) fun X S oL hS hR hO => ct_impl_GetOp _ X S (([] ++ r1252.1) ++ [9]) s1273 (1 : Int) hS (seeA hO (.head _)) oL h1277) ?_
  rintro _ w1278 ⟨s1279, rfl, hM⟩
  dsimp only [List.cons_append, List.nil_append] at hM
  refine wmv rfl rfl ?_
  refine wv rfl (r_extract rfl rfl) ?_
  refine wv rfl (r_extract rfl rfl) ?_
  refine wv rfl (r_extract rfl rfl) ?_
  refine was rfl rfl ?_
  refine was rfl rfl ?_
  refine was rfl rfl ?_
  refine wl_sq ?_
  refine wc_sr ?_
  refine wmv rfl rfl ?_
  obtain ⟨r1289, h1290, hx⟩ := bind_some' hx
  refine w_call rfl rfl (hM.callV fun X S oL hS hR hO => ct_spec_MakeNum _ X S code s_code (3000000 : Int) hS (hR _ (.head _)) oL h1290) ?_
  rintro _ w1291 ⟨rfl, hR1292⟩
  have hM := hM.call hR1292
  refine was rfl rfl ?_
  refine wl_sq ?_
  refine wc_sr ?_
  refine wmv rfl rfl ?_
  obtain ⟨r1295, h1296, hx⟩ := bind_some' hx
  refine w_call rfl rfl (hM.callO (l := []) fun X S oL hS hR hO => ct_impl_PutNum _ X S [] nS r1289 hS (rd_nil _ _) oL h1296) ?_
  rintro _ w1297 ⟨s1298, rfl, hM⟩
  dsimp only [List.cons_append, List.nil_append] at hM
  refine wmv rfl rfl ?_
  refine wv rfl (r_extract rfl rfl) ?_
  refine wv rfl (r_extract rfl rfl) ?_
  refine was rfl rfl ?_
  refine was rfl rfl ?_
  refine wl_sq ?_
  refine wc_sr ?_
  refine wmv rfl rfl ?_
  obtain ⟨r1306, h1307, hx⟩ := bind_some' hx
  refine w_call rfl rfl (hM.callV fun X S oL hS hR hO => ct_impl_GetNum _ X S r1295.1 s1298 (0 : Int) hS (seeA hO (.head _)) oL h1307) ?_
  rintro _ w1308 ⟨rfl, hR1309⟩
  have hM := hM.call hR1309
  refine wmv rfl rfl ?_
  refine wv rfl (r_extract rfl rfl) ?_
  refine wv rfl (r_extract rfl rfl) ?_
  refine wv rfl (r_extract rfl rfl) ?_
  refine was rfl rfl ?_
  refine was rfl rfl ?_
  refine was rfl rfl ?_
  refine wl_sq ?_
  refine wc_sr ?_
  refine wmv rfl rfl ?_
  refine wmv rfl rfl ?_
  obtain ⟨c1319, hx, hx1322⟩ := bind_some' hx
  refine wl_mid 2 (fun _ : Unit => [(84, (.bool c1319)), (3, (.pointer (some ⟨b308, 0, none⟩))), (6, (.pointer (some ⟨b340, 0, none⟩))), (9, (.bool r374.2)), (10, s1243.v), (11, s1255.v), (12, (.bool r1252.2)), (13, s1279.v), (14, (.int .i64 r1276.2.1)), (15, (.bool r1276.2.2)), (16, (.int .i64 r1289)), (17, s1298.v), (18, (.bool r1295.2)), (19, (.int .i64 r1306.1)), (20, (.int .i64 r1306.2.1)), (21, (.bool r1306.2.2))]) (fun _ w' => St ⟨w, X, S⟩ [oC (cSl 1 fY r1295.1) s1298.v, oC (cSl 3 fDPart r1276.1) s1279.v, oC (cSl 1 fY (([] ++ r1252.1) ++ [9])) s1273.v, oC (cSl 1 fY r1252.1) s1255.v, oC (cSl 1 fY [1]) s1247.v, oC (cSl 3 fDPart r1240) s1243.v, oBox b308 #[(.string r298.name), (.int .i64 r298.from_), s301.v, s302.v, s303.v] 27, oC (cSl 1 fI r298.text) s301.v, oC (cSl 3 fDEntry r298.list) s302.v, oC (cSl 3 fDSeen r298.seen) s303.v, oBox b340 #[(.string r327.1.name), (.int .i64 r327.1.from_), s330.v, s331.v, s332.v] 27, oC (cSl 1 fI r327.1.text) s330.v, oC (cSl 3 fDEntry r327.1.list) s331.v, oC (cSl 3 fDSeen r327.1.seen) s332.v] [rV s_code.v (cSl 1 fY code)] w') ?_ ?_
  ·
   rcases Bool.eq_false_or_eq_true r314.2 with hg1320 | hg1320
   ·
    replace hx := xif_t hg1320 hx
    refine gv rfl hg1320 rfl (r_move rfl) ?_
    refine wv rfl (p_t rfl hg1320 rfl) ?_
    obtain rfl := Option.some.inj hx
    exact mid_nil () ⟨rfl, rfl, rfl, rfl, rfl, rfl, rfl, rfl, rfl, rfl, rfl, rfl, rfl, rfl, rfl, rfl, trivial⟩ hM
   ·
    replace hx := xif_f hg1320 hx
    refine gs rfl (isB_no hg1320) rfl ?_
    refine wv rfl (p_f rfl hg1320 rfl) ?_
    obtain rfl := Option.some.inj hx
    exact mid_nil () ⟨rfl, rfl, rfl, rfl, rfl, rfl, rfl, rfl, rfl, rfl, rfl, rfl, rfl, rfl, rfl, rfl, trivial⟩ hM
  rintro _ w1324 hM
  replace hx := hx1322
  refine wmv rfl rfl ?_
  obtain ⟨c1326, hx, hx1330⟩ := bind_some' hx
  refine wl_mid 3 (fun _ : Unit => [(88, (.bool c1326)), (3, (.pointer (some ⟨b308, 0, none⟩))), (6, (.pointer (some ⟨b340, 0, none⟩))), (10, s1243.v), (11, s1255.v), (12, (.bool r1252.2)), (13, s1279.v), (14, (.int .i64 r1276.2.1)), (15, (.bool r1276.2.2)), (16, (.int .i64 r1289)), (17, s1298.v), (18, (.bool r1295.2)), (19, (.int .i64 r1306.1)), (20, (.int .i64 r1306.2.1)), (21, (.bool r1306.2.2))]) (fun _ w' => St ⟨w, X, S⟩ [oC (cSl 1 fY r1295.1) s1298.v, oC (cSl 3 fDPart r1276.1) s1279.v, oC (cSl 1 fY (([] ++ r1252.1) ++ [9])) s1273.v, oC (cSl 1 fY r1252.1) s1255.v, oC (cSl 1 fY [1]) s1247.v, oC (cSl 3 fDPart r1240) s1243.v, oBox b308 #[(.string r298.name), (.int .i64 r298.from_), s301.v, s302.v, s303.v] 27, oC (cSl 1 fI r298.text) s301.v, oC (cSl 3 fDEntry r298.list) s302.v, oC (cSl 3 fDSeen r298.seen) s303.v, oBox b340 #[(.string r327.1.name), (.int .i64 r327.1.from_), s330.v, s331.v, s332.v] 27, oC (cSl 1 fI r327.1.text) s330.v, oC (cSl 3 fDEntry r327.1.list) s331.v, oC (cSl 3 fDSeen r327.1.seen) s332.v] [rV s_code.v (cSl 1 fY code)] w') ?_ ?_
  ·
   rcases Bool.eq_false_or_eq_true c1319 with hg1327 | hg1327
   ·
    replace hx := xif_t hg1327 hx
    refine gv rfl hg1327 rfl (r_move rfl) ?_
    refine gv rfl hg1327 rfl (r_not rfl) ?_
    refine wv rfl (p_t rfl hg1327 rfl) ?_
    obtain rfl := Option.some.inj hx
    exact mid_nil () ⟨rfl, rfl, rfl, rfl, rfl, rfl, rfl, rfl, rfl, rfl, rfl, rfl, rfl, rfl, rfl, trivial⟩ hM
   ·
    replace hx := xif_f hg1327 hx
    refine gs rfl (isB_no hg1327) rfl ?_
    refine gs rfl (isB_no hg1327) rfl ?_
    refine wv rfl (p_f rfl hg1327 rfl) ?_
    obtain rfl := Option.some.inj hx
    exact mid_nil () ⟨rfl, rfl, rfl, rfl, rfl, rfl, rfl, rfl, rfl, rfl, rfl, rfl, rfl, rfl, rfl, trivial⟩ hM
  rintro _ w1333 hM
  replace hx := hx1330
  refine wmv rfl rfl ?_
  obtain ⟨c1335, hx, hx1343⟩ := bind_some' hx
  refine wl_mid 4 (fun _ : Unit => [(93, (.bool c1335)), (10, s1243.v), (11, s1255.v), (12, (.bool r1252.2)), (13, s1279.v), (14, (.int .i64 r1276.2.1)), (15, (.bool r1276.2.2)), (16, (.int .i64 r1289)), (17, s1298.v), (18, (.bool r1295.2)), (19, (.int .i64 r1306.1)), (20, (.int .i64 r1306.2.1)), (21, (.bool r1306.2.2))]) (fun _ w' => St ⟨w, X, S⟩ [oC (cSl 1 fY r1295.1) s1298.v, oC (cSl 3 fDPart r1276.1) s1279.v, oC (cSl 1 fY (([] ++ r1252.1) ++ [9])) s1273.v, oC (cSl 1 fY r1252.1) s1255.v, oC (cSl 1 fY [1]) s1247.v, oC (cSl 3 fDPart r1240) s1243.v, oBox b308 #[(.string r298.name), (.int .i64 r298.from_), s301.v, s302.v, s303.v] 27, oC (cSl 1 fI r298.text) s301.v, oC (cSl 3 fDEntry r298.list) s302.v, oC (cSl 3 fDSeen r298.seen) s303.v, oBox b340 #[(.string r327.1.name), (.int .i64 r327.1.from_), s330.v, s331.v, s332.v] 27, oC (cSl 1 fI r327.1.text) s330.v, oC (cSl 3 fDEntry r327.1.list) s331.v, oC (cSl 3 fDSeen r327.1.seen) s332.v] [rV s_code.v (cSl 1 fY code)] w') ?_ ?_
  ·
   rcases Bool.eq_false_or_eq_true c1326 with hg1336 | hg1336
   ·
    replace hx := xif_t hg1336 hx
    refine gv rfl hg1336 rfl (r_ldBS Tryz.underlying27 sz27 rfl (us := [(.string r327.1.name), (.int .i64 r327.1.from_), s330.v, s331.v, s332.v]) rfl hM (.tail _ (.tail _ (.tail _ (.tail _ (.tail _ (.tail _ (.tail _ (.tail _ (.tail _ (.tail _ (.head _))))))))))) rfl) ?_
    refine gv rfl hg1336 rfl (r_ldBS Tryz.underlying27 sz27 rfl (us := [(.string r298.name), (.int .i64 r298.from_), s301.v, s302.v, s303.v]) rfl hM (.tail _ (.tail _ (.tail _ (.tail _ (.tail _ (.tail _ (.head _))))))) rfl) ?_
    obtain ⟨r1346, h1347, hx⟩ := bind_some' hx
    refine gc rfl hg1336 rfl rfl (hM.callV fun X S oL hS hR hO => ct_impl_DocSame _ X S r327.1 s330 s331 s332 r298 s301 s302 s303 hS (seeA hO (.tail _ (.tail _ (.tail _ (.tail _ (.tail _ (.tail _ (.tail _ (.tail _ (.tail _ (.tail _ (.tail _ (.head _))))))))))))) (seeA hO (.tail _ (.tail _ (.tail _ (.tail _ (.tail _ (.tail _ (.tail _ (.tail _ (.tail _ (.tail _ (.tail _ (.tail _ (.head _)))))))))))))) (seeA hO (.tail _ (.tail _ (.tail _ (.tail _ (.tail _ (.tail _ (.tail _ (.tail _ (.tail _ (.tail _ (.tail _ (.tail _ (.tail _ (.head _))))))))))))))) (seeA hO (.tail _ (.tail _ (.tail _ (.tail _ (.tail _ (.tail _ (.tail _ (.head _))))))))) (seeA hO (.tail _ (.tail _ (.tail _ (.tail _ (.tail _ (.tail _ (.tail _ (.tail _ (.head _)))))))))) (seeA hO (.tail _ (.tail _ (.tail _ (.tail _ (.tail _ (.tail _ (.tail _ (.tail _ (.tail _ (.head _))))))))))) oL h1347) ?_
    rintro _ w1348 ⟨rfl, hR1349⟩
    have hM := hM.call hR1349
    refine wv rfl (p_t rfl hg1336 rfl) ?_
    obtain rfl := Option.some.inj hx
    exact mid_nil () ⟨rfl, rfl, rfl, rfl, rfl, rfl, rfl, rfl, rfl, rfl, rfl, rfl, rfl, trivial⟩ hM
   ·
    replace hx := xif_f hg1336 hx
    refine gs rfl (isB_no hg1336) rfl ?_
    refine gs rfl (isB_no hg1336) rfl ?_
    refine gs rfl (isB_no hg1336) rfl ?_
    refine wv rfl (p_f rfl hg1336 rfl) ?_
    obtain rfl := Option.some.inj hx
    exact mid_nil () ⟨rfl, rfl, rfl, rfl, rfl, rfl, rfl, rfl, rfl, rfl, rfl, rfl, rfl, trivial⟩ hM
  rintro _ w1350 hM
  replace hx := hx1343
  refine wmv rfl rfl ?_
  obtain ⟨c1352, hx, hx1355⟩ := bind_some' hx
  refine wl_mid 2 (fun _ : Unit => [(96, (.bool c1352)), (10, s1243.v), (11, s1255.v), (13, s1279.v), (14, (.int .i64 r1276.2.1)), (15, (.bool r1276.2.2)), (16, (.int .i64 r1289)), (17, s1298.v), (18, (.bool r1295.2)), (19, (.int .i64 r1306.1)), (20, (.int .i64 r1306.2.1)), (21, (.bool r1306.2.2))]) (fun _ w' => St ⟨w, X, S⟩ [oC (cSl 1 fY r1295.1) s1298.v, oC (cSl 3 fDPart r1276.1) s1279.v, oC (cSl 1 fY (([] ++ r1252.1) ++ [9])) s1273.v, oC (cSl 1 fY r1252.1) s1255.v, oC (cSl 1 fY [1]) s1247.v, oC (cSl 3 fDPart r1240) s1243.v, oBox b308 #[(.string r298.name), (.int .i64 r298.from_), s301.v, s302.v, s303.v] 27, oC (cSl 1 fI r298.text) s301.v, oC (cSl 3 fDEntry r298.list) s302.v, oC (cSl 3 fDSeen r298.seen) s303.v, oBox b340 #[(.string r327.1.name), (.int .i64 r327.1.from_), s330.v, s331.v, s332.v] 27, oC (cSl 1 fI r327.1.text) s330.v, oC (cSl 3 fDEntry r327.1.list) s331.v, oC (cSl 3 fDSeen r327.1.seen) s332.v] [rV s_code.v (cSl 1 fY code)] w') ?_ ?_
  ·
   rcases Bool.eq_false_or_eq_true c1335 with hg1353 | hg1353
   ·
    replace hx := xif_t hg1353 hx
    refine gv rfl hg1353 rfl (r_move rfl) ?_
    refine wv rfl (p_t rfl hg1353 rfl) ?_
    obtain rfl := Option.some.inj hx
    exact mid_nil () ⟨rfl, rfl, rfl, rfl, rfl, rfl, rfl, rfl, rfl, rfl, rfl, rfl, trivial⟩ hM
   ·
    replace hx := xif_f hg1353 hx
    refine gs rfl (isB_no hg1353) rfl ?_
    refine wv rfl (p_f rfl hg1353 rfl) ?_
    obtain rfl := Option.some.inj hx
    exact mid_nil () ⟨rfl, rfl, rfl, rfl, rfl, rfl, rfl, rfl, rfl, rfl, rfl, rfl, trivial⟩ hM
  rintro _ w1357 hM
  replace hx := hx1355
  refine wmv rfl rfl ?_
  obtain ⟨c1359, hx, hx1362⟩ := bind_some' hx
  refine wl_mid 2 (fun _ : Unit => [(99, (.bool c1359)), (10, s1243.v), (11, s1255.v), (13, s1279.v), (14, (.int .i64 r1276.2.1)), (16, (.int .i64 r1289)), (17, s1298.v), (18, (.bool r1295.2)), (19, (.int .i64 r1306.1)), (20, (.int .i64 r1306.2.1)), (21, (.bool r1306.2.2))]) (fun _ w' => St ⟨w, X, S⟩ [oC (cSl 1 fY r1295.1) s1298.v, oC (cSl 3 fDPart r1276.1) s1279.v, oC (cSl 1 fY (([] ++ r1252.1) ++ [9])) s1273.v, oC (cSl 1 fY r1252.1) s1255.v, oC (cSl 1 fY [1]) s1247.v, oC (cSl 3 fDPart r1240) s1243.v, oBox b308 #[(.string r298.name), (.int .i64 r298.from_), s301.v, s302.v, s303.v] 27, oC (cSl 1 fI r298.text) s301.v, oC (cSl 3 fDEntry r298.list) s302.v, oC (cSl 3 fDSeen r298.seen) s303.v, oBox b340 #[(.string r327.1.name), (.int .i64 r327.1.from_), s330.v, s331.v, s332.v] 27, oC (cSl 1 fI r327.1.text) s330.v, oC (cSl 3 fDEntry r327.1.list) s331.v, oC (cSl 3 fDSeen r327.1.seen) s332.v] [rV s_code.v (cSl 1 fY code)] w') ?_ ?_
  ·
   rcases Bool.eq_false_or_eq_true c1352 with hg1360 | hg1360
   ·
    replace hx := xif_t hg1360 hx
    refine gv rfl hg1360 rfl (r_move rfl) ?_
    refine wv rfl (p_t rfl hg1360 rfl) ?_
    obtain rfl := Option.some.inj hx
    exact mid_nil () ⟨rfl, rfl, rfl, rfl, rfl, rfl, rfl, rfl, rfl, rfl, rfl, trivial⟩ hM
   ·
    replace hx := xif_f hg1360 hx
    refine gs rfl (isB_no hg1360) rfl ?_
    refine wv rfl (p_f rfl hg1360 rfl) ?_
    obtain rfl := Option.some.inj hx
    exact mid_nil () ⟨rfl, rfl, rfl, rfl, rfl, rfl, rfl, rfl, rfl, rfl, rfl, trivial⟩ hM
  rintro _ w1364 hM
  replace hx := hx1362
  refine wmv rfl rfl ?_
  obtain ⟨c1366, hx, hx1372⟩ := bind_some' hx
  refine wl_mid 5 (fun _ : Unit => [(105, (.bool c1366)), (10, s1243.v), (13, s1279.v), (16, (.int .i64 r1289)), (17, s1298.v), (18, (.bool r1295.2)), (19, (.int .i64 r1306.1)), (20, (.int .i64 r1306.2.1)), (21, (.bool r1306.2.2))]) (fun _ w' => St ⟨w, X, S⟩ [oC (cSl 1 fY r1295.1) s1298.v, oC (cSl 3 fDPart r1276.1) s1279.v, oC (cSl 1 fY (([] ++ r1252.1) ++ [9])) s1273.v, oC (cSl 1 fY r1252.1) s1255.v, oC (cSl 1 fY [1]) s1247.v, oC (cSl 3 fDPart r1240) s1243.v, oBox b308 #[(.string r298.name), (.int .i64 r298.from_), s301.v, s302.v, s303.v] 27, oC (cSl 1 fI r298.text) s301.v, oC (cSl 3 fDEntry r298.list) s302.v, oC (cSl 3 fDSeen r298.seen) s303.v, oBox b340 #[(.string r327.1.name), (.int .i64 r327.1.from_), s330.v, s331.v, s332.v] 27, oC (cSl 1 fI r327.1.text) s330.v, oC (cSl 3 fDEntry r327.1.list) s331.v, oC (cSl 3 fDSeen r327.1.seen) s332.v] [rV s_code.v (cSl 1 fY code)] w') ?_ ?_
  ·
   rcases Bool.eq_false_or_eq_true c1359 with hg1367 | hg1367
   ·
    replace hx := xif_t hg1367 hx
    refine gv rfl hg1367 rfl (r_move rfl) ?_
    refine gv rfl hg1367 rfl (r_move rfl) ?_
    refine gv rfl hg1367 rfl (r_lenC Tryz.underlying22 rfl (hM.seeO (.tail _ (.tail _ (.tail _ (.head _)))))) ?_
    refine gv rfl hg1367 rfl (r_eql rfl rfl) ?_
    refine wv rfl (p_t rfl hg1367 rfl) ?_
    obtain rfl := Option.some.inj hx
    exact mid_nil () ⟨rfl, rfl, rfl, rfl, rfl, rfl, rfl, rfl, rfl, trivial⟩ hM
   ·
    replace hx := xif_f hg1367 hx
    refine gs rfl (isB_no hg1367) rfl ?_
    refine gs rfl (isB_no hg1367) rfl ?_
    refine gs rfl (isB_no hg1367) rfl ?_
    refine gs rfl (isB_no hg1367) rfl ?_
    refine wv rfl (p_f rfl hg1367 rfl) ?_
    obtain rfl := Option.some.inj hx
    exact mid_nil () ⟨rfl, rfl, rfl, rfl, rfl, rfl, rfl, rfl, rfl, trivial⟩ hM
  rintro _ w1377 hM
  replace hx := hx1372
  refine wmv rfl rfl ?_
  obtain ⟨c1379, hx, hx1392⟩ := bind_some' hx
  refine wl_mid 5 (fun _ : Unit => [(111, (.bool c1379)), (16, (.int .i64 r1289)), (17, s1298.v), (18, (.bool r1295.2)), (19, (.int .i64 r1306.1)), (20, (.int .i64 r1306.2.1)), (21, (.bool r1306.2.2))]) (fun _ w' => St ⟨w, X, S⟩ [oC (cSl 1 fY r1295.1) s1298.v, oC (cSl 3 fDPart r1276.1) s1279.v, oC (cSl 1 fY (([] ++ r1252.1) ++ [9])) s1273.v, oC (cSl 1 fY r1252.1) s1255.v, oC (cSl 1 fY [1]) s1247.v, oC (cSl 3 fDPart r1240) s1243.v, oBox b308 #[(.string r298.name), (.int .i64 r298.from_), s301.v, s302.v, s303.v] 27, oC (cSl 1 fI r298.text) s301.v, oC (cSl 3 fDEntry r298.list) s302.v, oC (cSl 3 fDSeen r298.seen) s303.v, oBox b340 #[(.string r327.1.name), (.int .i64 r327.1.from_), s330.v, s331.v, s332.v] 27, oC (cSl 1 fI r327.1.text) s330.v, oC (cSl 3 fDEntry r327.1.list) s331.v, oC (cSl 3 fDSeen r327.1.seen) s332.v] [rV s_code.v (cSl 1 fY code)] w') ?_ ?_
  ·
   rcases Bool.eq_false_or_eq_true c1366 with hg1380 | hg1380
   ·
    replace hx := xif_t hg1380 hx
    refine gv rfl hg1380 rfl (r_move rfl) ?_
    refine gv rfl hg1380 rfl (r_move rfl) ?_
    obtain ⟨r1395, h1396, hx⟩ := bind_some' hx
    refine gc rfl hg1380 rfl rfl (hM.callO (l := []) fun X S oL hS hR hO => ct_impl_OpNorm _ X S r1240 s1243 hS (seeA hO (.tail _ (.tail _ (.tail _ (.tail _ (.tail _ (.head _))))))) oL h1396) ?_
    rintro _ w1397 ⟨s1398, rfl, hM⟩
    dsimp only [List.cons_append, List.nil_append] at hM
    obtain ⟨r1400, h1401, hx⟩ := bind_some' hx
    refine gc rfl hg1380 rfl rfl (hM.callV fun X S oL hS hR hO => ct_impl_OpSame _ X S r1276.1 s1279 r1395 s1398 hS (seeA hO (.tail _ (.tail _ (.head _)))) (seeA hO (.head _)) oL h1401) ?_
    rintro _ w1402 ⟨rfl, hR1403⟩
    have hM := hM.call hR1403
    refine wv rfl (p_t rfl hg1380 rfl) ?_
    obtain rfl := Option.some.inj hx
    replace hM := hM.drop
    exact mid_nil () ⟨rfl, rfl, rfl, rfl, rfl, rfl, rfl, trivial⟩ hM
   ·
    replace hx := xif_f hg1380 hx
    refine gs rfl (isB_no hg1380) rfl ?_
    refine gs rfl (isB_no hg1380) rfl ?_
    refine gs rfl (isB_no hg1380) rfl ?_
    refine gs rfl (isB_no hg1380) rfl ?_
    refine wv rfl (p_f rfl hg1380 rfl) ?_
    obtain rfl := Option.some.inj hx
    exact mid_nil () ⟨rfl, rfl, rfl, rfl, rfl, rfl, rfl, trivial⟩ hM
  rintro _ w1404 hM
  replace hx := hx1392
  refine wmv rfl rfl ?_
  obtain ⟨c1406, hx, hx1409⟩ := bind_some' hx
  refine wl_mid 2 (fun _ : Unit => [(114, (.bool c1406)), (16, (.int .i64 r1289)), (17, s1298.v), (19, (.int .i64 r1306.1)), (20, (.int .i64 r1306.2.1)), (21, (.bool r1306.2.2))]) (fun _ w' => St ⟨w, X, S⟩ [oC (cSl 1 fY r1295.1) s1298.v, oC (cSl 3 fDPart r1276.1) s1279.v, oC (cSl 1 fY (([] ++ r1252.1) ++ [9])) s1273.v, oC (cSl 1 fY r1252.1) s1255.v, oC (cSl 1 fY [1]) s1247.v, oC (cSl 3 fDPart r1240) s1243.v, oBox b308 #[(.string r298.name), (.int .i64 r298.from_), s301.v, s302.v, s303.v] 27, oC (cSl 1 fI r298.text) s301.v, oC (cSl 3 fDEntry r298.list) s302.v, oC (cSl 3 fDSeen r298.seen) s303.v, oBox b340 #[(.string r327.1.name), (.int .i64 r327.1.from_), s330.v, s331.v, s332.v] 27, oC (cSl 1 fI r327.1.text) s330.v, oC (cSl 3 fDEntry r327.1.list) s331.v, oC (cSl 3 fDSeen r327.1.seen) s332.v] [rV s_code.v (cSl 1 fY code)] w') ?_ ?_
  ·
   rcases Bool.eq_false_or_eq_true c1379 with hg1407 | hg1407
   ·
    replace hx := xif_t hg1407 hx
    refine gv rfl hg1407 rfl (r_move rfl) ?_
    refine wv rfl (p_t rfl hg1407 rfl) ?_
    obtain rfl := Option.some.inj hx
    exact mid_nil () ⟨rfl, rfl, rfl, rfl, rfl, rfl, trivial⟩ hM
   ·
    replace hx := xif_f hg1407 hx
    refine gs rfl (isB_no hg1407) rfl ?_
    refine wv rfl (p_f rfl hg1407 rfl) ?_
    obtain rfl := Option.some.inj hx
    exact mid_nil () ⟨rfl, rfl, rfl, rfl, rfl, rfl, trivial⟩ hM
  rintro _ w1411 hM
  replace hx := hx1409
  refine wmv rfl rfl ?_
  obtain ⟨c1413, hx, hx1416⟩ := bind_some' hx
  refine wl_mid 2 (fun _ : Unit => [(117, (.bool c1413)), (16, (.int .i64 r1289)), (17, s1298.v), (19, (.int .i64 r1306.1)), (20, (.int .i64 r1306.2.1))]) (fun _ w' => St ⟨w, X, S⟩ [oC (cSl 1 fY r1295.1) s1298.v, oC (cSl 3 fDPart r1276.1) s1279.v, oC (cSl 1 fY (([] ++ r1252.1) ++ [9])) s1273.v, oC (cSl 1 fY r1252.1) s1255.v, oC (cSl 1 fY [1]) s1247.v, oC (cSl 3 fDPart r1240) s1243.v, oBox b308 #[(.string r298.name), (.int .i64 r298.from_), s301.v, s302.v, s303.v] 27, oC (cSl 1 fI r298.text) s301.v, oC (cSl 3 fDEntry r298.list) s302.v, oC (cSl 3 fDSeen r298.seen) s303.v, oBox b340 #[(.string r327.1.name), (.int .i64 r327.1.from_), s330.v, s331.v, s332.v] 27, oC (cSl 1 fI r327.1.text) s330.v, oC (cSl 3 fDEntry r327.1.list) s331.v, oC (cSl 3 fDSeen r327.1.seen) s332.v] [rV s_code.v (cSl 1 fY code)] w') ?_ ?_
  ·
   rcases Bool.eq_false_or_eq_true c1406 with hg1414 | hg1414
   ·
    replace hx := xif_t hg1414 hx
    refine gv rfl hg1414 rfl (r_move rfl) ?_
    refine wv rfl (p_t rfl hg1414 rfl) ?_
    obtain rfl := Option.some.inj hx
    exact mid_nil () ⟨rfl, rfl, rfl, rfl, rfl, trivial⟩ hM
   ·
    replace hx := xif_f hg1414 hx
    refine gs rfl (isB_no hg1414) rfl ?_
    refine wv rfl (p_f rfl hg1414 rfl) ?_
    obtain rfl := Option.some.inj hx
    exact mid_nil () ⟨rfl, rfl, rfl, rfl, rfl, trivial⟩ hM
  rintro _ w1418 hM
  replace hx := hx1416
  refine wmv rfl rfl ?_
  obtain ⟨c1420, hx, hx1425⟩ := bind_some' hx
  refine wl_mid 4 (fun _ : Unit => [(122, (.bool c1420)), (17, s1298.v), (20, (.int .i64 r1306.2.1))]) (fun _ w' => St ⟨w, X, S⟩ [oC (cSl 1 fY r1295.1) s1298.v, oC (cSl 3 fDPart r1276.1) s1279.v, oC (cSl 1 fY (([] ++ r1252.1) ++ [9])) s1273.v, oC (cSl 1 fY r1252.1) s1255.v, oC (cSl 1 fY [1]) s1247.v, oC (cSl 3 fDPart r1240) s1243.v, oBox b308 #[(.string r298.name), (.int .i64 r298.from_), s301.v, s302.v, s303.v] 27, oC (cSl 1 fI r298.text) s301.v, oC (cSl 3 fDEntry r298.list) s302.v, oC (cSl 3 fDSeen r298.seen) s303.v, oBox b340 #[(.string r327.1.name), (.int .i64 r327.1.from_), s330.v, s331.v, s332.v] 27, oC (cSl 1 fI r327.1.text) s330.v, oC (cSl 3 fDEntry r327.1.list) s331.v, oC (cSl 3 fDSeen r327.1.seen) s332.v] [rV s_code.v (cSl 1 fY code)] w') ?_ ?_
  ·
   rcases Bool.eq_false_or_eq_true c1413 with hg1421 | hg1421
   ·
    replace hx := xif_t hg1421 hx
    refine gv rfl hg1421 rfl (r_move rfl) ?_
    refine gv rfl hg1421 rfl (r_move rfl) ?_
    refine gv rfl hg1421 rfl (r_eql rfl rfl) ?_
    refine wv rfl (p_t rfl hg1421 rfl) ?_
    obtain rfl := Option.some.inj hx
    exact mid_nil () ⟨rfl, rfl, rfl, trivial⟩ hM
   ·
    replace hx := xif_f hg1421 hx
    refine gs rfl (isB_no hg1421) rfl ?_
    refine gs rfl (isB_no hg1421) rfl ?_
    refine gs rfl (isB_no hg1421) rfl ?_
    refine wv rfl (p_f rfl hg1421 rfl) ?_
    obtain rfl := Option.some.inj hx
    exact mid_nil () ⟨rfl, rfl, rfl, trivial⟩ hM
  rintro _ w1429 hM
  replace hx := hx1425
  refine wmv rfl rfl ?_
  obtain ⟨c1431, hx, hx1437⟩ := bind_some' hx
  refine wl_mid 5 (fun _ : Unit => [(128, (.bool c1431))]) (fun _ w' => St ⟨w, X, S⟩ [oC (cSl 1 fY r1295.1) s1298.v, oC (cSl 3 fDPart r1276.1) s1279.v, oC (cSl 1 fY (([] ++ r1252.1) ++ [9])) s1273.v, oC (cSl 1 fY r1252.1) s1255.v, oC (cSl 1 fY [1]) s1247.v, oC (cSl 3 fDPart r1240) s1243.v, oBox b308 #[(.string r298.name), (.int .i64 r298.from_), s301.v, s302.v, s303.v] 27, oC (cSl 1 fI r298.text) s301.v, oC (cSl 3 fDEntry r298.list) s302.v, oC (cSl 3 fDSeen r298.seen) s303.v, oBox b340 #[(.string r327.1.name), (.int .i64 r327.1.from_), s330.v, s331.v, s332.v] 27, oC (cSl 1 fI r327.1.text) s330.v, oC (cSl 3 fDEntry r327.1.list) s331.v, oC (cSl 3 fDSeen r327.1.seen) s332.v] [rV s_code.v (cSl 1 fY code)] w') ?_ ?_
  ·
   rcases Bool.eq_false_or_eq_true c1420 with hg1432 | hg1432
   ·
    replace hx := xif_t hg1432 hx
    refine gv rfl hg1432 rfl (r_move rfl) ?_
    refine gv rfl hg1432 rfl (r_move rfl) ?_
    refine gv rfl hg1432 rfl (r_lenC Tryz.underlying22 rfl (hM.seeO (.head _))) ?_
    refine gv rfl hg1432 rfl (r_eql rfl rfl) ?_
    refine wv rfl (p_t rfl hg1432 rfl) ?_
    obtain rfl := Option.some.inj hx
    exact mid_nil () ⟨rfl, trivial⟩ hM
   ·
    replace hx := xif_f hg1432 hx
    refine gs rfl (isB_no hg1432) rfl ?_
    refine gs rfl (isB_no hg1432) rfl ?_
    refine gs rfl (isB_no hg1432) rfl ?_
    refine gs rfl (isB_no hg1432) rfl ?_
    refine wv rfl (p_f rfl hg1432 rfl) ?_
    obtain rfl := Option.some.inj hx
    exact mid_nil () ⟨rfl, trivial⟩ hM
  rintro _ w1442 hM
  replace hx := hx1437
  refine was rfl rfl ?_
  refine wl_sq ?_
  refine wc_ret ?_
  obtain rfl := Option.some.inj hx
  refine fin_ret [(.bool c1431)] ⟨rfl, trivial⟩ ?_
  replace hM := hM.t0
  have hM := hM.fewer rsN
  exact ⟨(), rfl, hM.gives⟩

end Go.Proofs.YtlgmikaemfbmaaaGreat
