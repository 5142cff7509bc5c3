/- Walks of functions of this program (printed by a program of ours, by the rules of the layer). No condition. -/
import Derived.Test.YthfkcpdechjmnaaGW
import Derived.Test.YthfkcpdechjmnaaNr
namespace Go.Proofs.Ythfkcpdechjmnaa
open Go.RowKit

noncomputable def x_laws_FnOther (code : List UInt8) : Option Bool :=
  bif decide ((1048576 : Int) < (code.length : Int)) then (some true) else (Option.bind (x_spec_MakeStory code) fun r7 => Option.bind (x_spec_MakeOp code (r7.2.length : Int)) fun r29 => Option.bind (x_impl_PastDo r7.1 r29 r7.2) fun r38 => Option.bind (x_impl_Apply r29 r7.2) fun r57 => xg (0 ≤ (7 : Int) ∧ (7 : Int) ≤ 255) <| xg ([7].length + code.length ≤ 1099511627776) <| Option.bind (x_spec_MakeOp ([7] ++ code) (r57.1.length : Int)) fun r79 => Option.bind (x_impl_PastOther r38.1 r79) fun r87 => Option.bind (x_impl_Apply r79 r57.1) fun r106 => Option.bind (x_impl_PastUndo r87.1 r106.1) fun r118 => Option.bind (x_impl_Apply r118.2.1 r106.1) fun r141 => Option.bind (x_impl_Invert r29 r7.2) fun r153 => Option.bind (x_impl_Transform r79 r153.1) fun r165 => Option.bind (x_impl_Apply r165.1 r7.2) fun r181 => Option.bind (bif r38.2 then (some r57.2) else (some false)) fun c193 => Option.bind (bif c193 then (some r87.2) else (some false)) fun c198 => Option.bind (bif c198 then (some r106.2) else (some false)) fun c203 => Option.bind (bif c203 then (some r118.2.2) else (some false)) fun c208 => Option.bind (bif c208 then (some r141.2) else (some false)) fun c213 => Option.bind (bif c213 then (some r153.2) else (some false)) fun c218 => Option.bind (bif c218 then (some r165.2.2) else (some false)) fun c223 => Option.bind (bif c223 then (some r181.2) else (some false)) fun c228 => Option.bind (bif c228 then (Option.bind (x_impl_SignsSame r141.1 r181.1) fun r243 => some r243) else (some false)) fun c233 => some c233)
theorem ct_laws_FnOther (w : World) (X S : Bs) (code : List UInt8) (s_code : Sv) (hS : ∀ b, S b → b < w.heap.size ∧ ¬ X b) (a_code_0 : (cSl 1 fY code).rd S w s_code.v) (oL : Sep [] X w) {r : Bool} (hx : x_laws_FnOther code = some r) :
    Ret Try.prog 4 [s_code.v] w (fun u w' => ∃ _ : Unit, u = (.bool r) ∧ Gives X S w [] [] w') := by
  unfold x_laws_FnOther at hx
  refine enter Try.func4 rfl Try.ntmps4 (by kernel_rfl) rfl ?_
  have hM := St.enter oL hS
  have hM := hM.addE (r := rV s_code.v (cSl 1 fY code)) a_code_0
  refine wc_seq ?_
  refine wc_region ?_
  refine wv rfl (r_assign rfl) ?_
  refine wl_nil ?_
  refine sq_n ?_
  refine wc_seq ?_
  refine wc_seq ?_
  refine wc_region ?_
  refine wv rfl (r_move rfl) ?_
  refine wv rfl (r_lenC Try.underlying22 rfl (hM.seeR (.head _))) ?_
  refine wv rfl (r_gtr rfl rfl) ?_
  refine wl_nil ?_
  refine sq_n ?_
  refine wc_cond rfl (fun hc252 => ?_) (fun hc252 => ?_)
  · replace hx := xif_t hc252 hx
    refine wc_seq ?_
    refine wc_region ?_
    refine wv rfl (r_assign rfl) ?_
    refine wl_nil ?_
    refine sq_n ?_
    refine wc_ret ?_
    refine sq_ret ?_
    obtain rfl := Option.some.inj hx
    refine fin_ret [(.bool true)] ⟨rfl, trivial⟩ ?_
    replace hM := hM.t0
    have hM := hM.fewer rsN
    exact ⟨(), rfl, hM.gives⟩
  · replace hx := xif_f hc252 hx
    refine wc_skip ?_
    refine sq_n ?_
    refine wc_seq ?_
    refine wc_region ?_
    refine wv rfl (r_move rfl) ?_
    obtain ⟨r255, h256, hx⟩ := bind_some' hx
    refine w_call rfl rfl (hM.callO (l := []) fun X S oL hS hR hO => ct_spec_MakeStory _ X S code s_code hS (hR _ (.head _)) oL h256) ?_
    rintro _ w257 ⟨⟨s258, s259, s260⟩, rfl, hM⟩
    replace hM : St ⟨w, X, S⟩ [oC (cSl 1 fLDPart r255.1.undo) s258.v, oC (cSl 1 fLDPart r255.1.redo) s259.v, oC (cSl 1 fI r255.2) s260.v] [rV s_code.v (cSl 1 fY code)] _ := hM
    refine wv rfl (r_move rfl) ?_
    refine wv rfl (r_extract rfl rfl) ?_
    refine wv rfl (r_extract rfl rfl) ?_
    refine w_ex rfl (x_alloc sz25 hM ?_); intro b268 w267 hR269 hM
    replace hM : St ⟨w, X, S⟩ [oBox b268 #[(.int .i64 0), (.slice none 0 0), (.slice none 0 0)] 25, oC (cSl 1 fLDPart r255.1.undo) s258.v, oC (cSl 1 fLDPart r255.1.redo) s259.v, oC (cSl 1 fI r255.2) s260.v] [rV s_code.v (cSl 1 fY code)] _ := hM
    refine w_exu (x_stB #[(.int .i64 r255.1.n), s258.v, s259.v] sz25 rfl rfl rfl rfl rfl rfl hM ?_); intro w271 hM
    refine wv rfl (r_assign rfl) ?_
    refine wl_nil ?_
    refine sq_n ?_
    refine wc_seq ?_
    refine wc_region ?_
    refine wv rfl (r_move rfl) ?_
    refine wv rfl (r_move rfl) ?_
    refine wv rfl (r_lenC Try.underlying26 rfl (hM.seeO (.tail _ (.tail _ (.tail _ (.head _)))))) ?_
    obtain ⟨r277, h278, hx⟩ := bind_some' hx
    refine w_call rfl rfl (hM.callO (l := []) fun X S oL hS hR hO => ct_spec_MakeOp _ X S code s_code (r255.2.length : Int) hS (hR _ (.head _)) oL h278) ?_
    rintro _ w279 ⟨s280, rfl, hM⟩
    replace hM : St ⟨w, X, S⟩ [oC (cSl 3 fDPart r277) s280.v, oBox b268 #[(.int .i64 r255.1.n), s258.v, s259.v] 25, oC (cSl 1 fLDPart r255.1.undo) s258.v, oC (cSl 1 fLDPart r255.1.redo) s259.v, oC (cSl 1 fI r255.2) s260.v] [rV s_code.v (cSl 1 fY code)] _ := hM
    refine wv rfl (r_assign rfl) ?_
    refine wl_nil ?_
    refine sq_n ?_
    refine wc_seq ?_
    refine wc_region ?_
    refine wv rfl (r_ldBS Try.underlying25 sz25 rfl (us := [(.int .i64 r255.1.n), s258.v, s259.v]) rfl hM (.tail _ (.head _)) rfl) ?_
    refine wv rfl (r_move rfl) ?_
    refine wv rfl (r_move rfl) ?_
    obtain ⟨r286, h287, hx⟩ := bind_some' hx
    refine w_call rfl rfl (hM.callO (l := []) fun X S oL hS hR hO => ct_impl_PastDo _ X S r255.1 s258 s259 r277 s280 r255.2 s260 hS (seeA hO (.tail _ (.tail _ (.head _)))) (seeA hO (.tail _ (.tail _ (.tail _ (.head _))))) (seeA hO (.head _)) (seeA hO (.tail _ (.tail _ (.tail _ (.tail _ (.head _)))))) oL h287) ?_
    rintro _ w288 ⟨⟨s289, s290⟩, rfl, hM⟩
    replace hM : St ⟨w, X, S⟩ [oC (cSl 1 fLDPart r286.1.undo) s289.v, oC (cSl 1 fLDPart r286.1.redo) s290.v, oC (cSl 3 fDPart r277) s280.v, oBox b268 #[(.int .i64 r255.1.n), s258.v, s259.v] 25, oC (cSl 1 fLDPart r255.1.undo) s258.v, oC (cSl 1 fLDPart r255.1.redo) s259.v, oC (cSl 1 fI r255.2) s260.v] [rV s_code.v (cSl 1 fY code)] _ := hM
    refine wv rfl (r_move rfl) ?_
    refine wv rfl (r_extract rfl rfl) ?_
    refine wv rfl (r_extract rfl rfl) ?_
    refine w_ex rfl (x_alloc sz25 hM ?_); intro b297 w296 hR298 hM
    replace hM : St ⟨w, X, S⟩ [oBox b297 #[(.int .i64 0), (.slice none 0 0), (.slice none 0 0)] 25, oC (cSl 1 fLDPart r286.1.undo) s289.v, oC (cSl 1 fLDPart r286.1.redo) s290.v, oC (cSl 3 fDPart r277) s280.v, oBox b268 #[(.int .i64 r255.1.n), s258.v, s259.v] 25, oC (cSl 1 fLDPart r255.1.undo) s258.v, oC (cSl 1 fLDPart r255.1.redo) s259.v, oC (cSl 1 fI r255.2) s260.v] [rV s_code.v (cSl 1 fY code)] _ := hM
    refine w_exu (x_stB #[(.int .i64 r286.1.n), s289.v, s290.v] sz25 rfl rfl rfl rfl rfl rfl hM ?_); intro w300 hM
    refine wv rfl (r_assign rfl) ?_
    refine wl_nil ?_
    refine sq_n ?_
    refine wc_seq ?_
    refine wc_region ?_
    refine wv rfl (r_move rfl) ?_
    refine wv rfl (r_move rfl) ?_
    obtain ⟨r305, h306, hx⟩ := bind_some' hx
    refine w_call rfl rfl (hM.callO (l := []) fun X S oL hS hR hO => ct_impl_Apply _ X S r277 s280 r255.2 s260 hS (seeA hO (.tail _ (.tail _ (.tail _ (.head _))))) (seeA hO (.tail _ (.tail _ (.tail _ (.tail _ (.tail _ (.tail _ (.tail _ (.head _))))))))) oL h306) ?_
    rintro _ w307 ⟨s308, rfl, hM⟩
    replace hM : St ⟨w, X, S⟩ [oC (cSl 1 fI r305.1) s308.v, oBox b297 #[(.int .i64 r286.1.n), s289.v, s290.v] 25, oC (cSl 1 fLDPart r286.1.undo) s289.v, oC (cSl 1 fLDPart r286.1.redo) s290.v, oC (cSl 3 fDPart r277) s280.v, oBox b268 #[(.int .i64 r255.1.n), s258.v, s259.v] 25, oC (cSl 1 fLDPart r255.1.undo) s258.v, oC (cSl 1 fLDPart r255.1.redo) s259.v, oC (cSl 1 fI r255.2) s260.v] [rV s_code.v (cSl 1 fY code)] _ := hM
    refine wv rfl (r_move rfl) ?_
    refine wv rfl (r_extract rfl rfl) ?_
    refine wv rfl (r_extract rfl rfl) ?_
    refine wv rfl (r_assign rfl) ?_
    refine wv rfl (r_assign rfl) ?_
    refine wl_nil ?_
    refine sq_n ?_
    refine wc_seq ?_
    refine wc_region ?_
    obtain ⟨hg317, hx⟩ := xg_some hx
    refine w_ex rfl (x_lit (f := fY) (own := []) [7] [(.int .u8 7)] 1 Try.underlying22 sz5 (fun _ => rfl) rfl rfl rfl rfl rfl (by kernel_rfl) (fun _ => zP (pY hg317) zN) hM ?_); intro s316 w315 hR318 hM
    refine wv rfl (r_move rfl) ?_
    obtain ⟨hg323, hx⟩ := xg_some hx
    refine w_ex rfl (x_append Try.underlying22 sz5 rfl rfl (hM.seeR (.head _)) flY hM hg323 rfl ?_); intro s322 w321 hM
    refine wv rfl (r_move rfl) ?_
    refine wv rfl (r_lenC Try.underlying26 rfl (hM.seeO (.tail _ (.head _)))) ?_
    obtain ⟨r327, h328, hx⟩ := bind_some' hx
    refine w_call rfl rfl (hM.callO (l := []) fun X S oL hS hR hO => ct_spec_MakeOp _ X S ([7] ++ code) s322 (r305.1.length : Int) hS (seeA hO (.head _)) oL h328) ?_
    rintro _ w329 ⟨s330, rfl, hM⟩
    replace hM : St ⟨w, X, S⟩ [oC (cSl 3 fDPart r327) s330.v, oC (cSl 1 fY ([7] ++ code)) s322.v, oC (cSl 1 fI r305.1) s308.v, oBox b297 #[(.int .i64 r286.1.n), s289.v, s290.v] 25, oC (cSl 1 fLDPart r286.1.undo) s289.v, oC (cSl 1 fLDPart r286.1.redo) s290.v, oC (cSl 3 fDPart r277) s280.v, oBox b268 #[(.int .i64 r255.1.n), s258.v, s259.v] 25, oC (cSl 1 fLDPart r255.1.undo) s258.v, oC (cSl 1 fLDPart r255.1.redo) s259.v, oC (cSl 1 fI r255.2) s260.v] [rV s_code.v (cSl 1 fY code)] _ := hM
    refine wv rfl (r_assign rfl) ?_
    refine wl_nil ?_
    refine sq_n ?_
    refine wc_seq ?_
    refine wc_region ?_
    refine wv rfl (r_ldBS Try.underlying25 sz25 rfl (us := [(.int .i64 r286.1.n), s289.v, s290.v]) rfl hM (.tail _ (.tail _ (.tail _ (.head _)))) rfl) ?_
    refine wv rfl (r_move rfl) ?_
    obtain ⟨r335, h336, hx⟩ := bind_some' hx
    refine w_call rfl rfl (hM.callO (l := []) fun X S oL hS hR hO => ct_impl_PastOther _ X S r286.1 s289 s290 r327 s330 hS (seeA hO (.tail _ (.tail _ (.tail _ (.tail _ (.head _)))))) (seeA hO (.tail _ (.tail _ (.tail _ (.tail _ (.tail _ (.head _))))))) (seeA hO (.head _)) oL h336) ?_
    rintro _ w337 ⟨⟨s338, s339⟩, rfl, hM⟩
    replace hM : St ⟨w, X, S⟩ [oC (cSl 1 fLDPart r335.1.undo) s338.v, oC (cSl 1 fLDPart r335.1.redo) s339.v, oC (cSl 3 fDPart r327) s330.v, oC (cSl 1 fY ([7] ++ code)) s322.v, oC (cSl 1 fI r305.1) s308.v, oBox b297 #[(.int .i64 r286.1.n), s289.v, s290.v] 25, oC (cSl 1 fLDPart r286.1.undo) s289.v, oC (cSl 1 fLDPart r286.1.redo) s290.v, oC (cSl 3 fDPart r277) s280.v, oBox b268 #[(.int .i64 r255.1.n), s258.v, s259.v] 25, oC (cSl 1 fLDPart r255.1.undo) s258.v, oC (cSl 1 fLDPart r255.1.redo) s259.v, oC (cSl 1 fI r255.2) s260.v] [rV s_code.v (cSl 1 fY code)] _ := hM
    refine wv rfl (r_move rfl) ?_
    refine wv rfl (r_extract rfl rfl) ?_
    refine wv rfl (r_extract rfl rfl) ?_
    refine w_ex rfl (x_alloc sz25 hM ?_); intro b346 w345 hR347 hM
    replace hM : St ⟨w, X, S⟩ [oBox b346 #[(.int .i64 0), (.slice none 0 0), (.slice none 0 0)] 25, oC (cSl 1 fLDPart r335.1.undo) s338.v, oC (cSl 1 fLDPart r335.1.redo) s339.v, oC (cSl 3 fDPart r327) s330.v, oC (cSl 1 fY ([7] ++ code)) s322.v, oC (cSl 1 fI r305.1) s308.v, oBox b297 #[(.int .i64 r286.1.n), s289.v, s290.v] 25, oC (cSl 1 fLDPart r286.1.undo) s289.v, oC (cSl 1 fLDPart r286.1.redo) s290.v, oC (cSl 3 fDPart r277) s280.v, oBox b268 #[(.int .i64 r255.1.n), s258.v, s259.v] 25, oC (cSl 1 fLDPart r255.1.undo) s258.v, oC (cSl 1 fLDPart r255.1.redo) s259.v, oC (cSl 1 fI r255.2) s260.v] [rV s_code.v (cSl 1 fY code)] _ := hM
    refine w_exu (x_stB #[(.int .i64 r335.1.n), s338.v, s339.v] sz25 rfl rfl rfl rfl rfl rfl hM ?_); intro w349 hM
    refine wv rfl (r_assign rfl) ?_
    refine wl_nil ?_
    refine sq_n ?_
    refine wc_seq ?_
    refine wc_region ?_
    refine wv rfl (r_move rfl) ?_
    refine wv rfl (r_move rfl) ?_
    obtain ⟨r354, h355, hx⟩ := bind_some' hx
    refine w_call rfl rfl (hM.callO (l := []) fun X S oL hS hR hO => ct_impl_Apply _ X S r327 s330 r305.1 s308 hS (seeA hO (.tail _ (.tail _ (.tail _ (.head _))))) (seeA hO (.tail _ (.tail _ (.tail _ (.tail _ (.tail _ (.head _))))))) oL h355) ?_
    rintro _ w356 ⟨s357, rfl, hM⟩
    replace hM : St ⟨w, X, S⟩ [oC (cSl 1 fI r354.1) s357.v, oBox b346 #[(.int .i64 r335.1.n), s338.v, s339.v] 25, oC (cSl 1 fLDPart r335.1.undo) s338.v, oC (cSl 1 fLDPart r335.1.redo) s339.v, oC (cSl 3 fDPart r327) s330.v, oC (cSl 1 fY ([7] ++ code)) s322.v, oC (cSl 1 fI r305.1) s308.v, oBox b297 #[(.int .i64 r286.1.n), s289.v, s290.v] 25, oC (cSl 1 fLDPart r286.1.undo) s289.v, oC (cSl 1 fLDPart r286.1.redo) s290.v, oC (cSl 3 fDPart r277) s280.v, oBox b268 #[(.int .i64 r255.1.n), s258.v, s259.v] 25, oC (cSl 1 fLDPart r255.1.undo) s258.v, oC (cSl 1 fLDPart r255.1.redo) s259.v, oC (cSl 1 fI r255.2) s260.v] [rV s_code.v (cSl 1 fY code)] _ := hM
    refine wv rfl (r_move rfl) ?_
    refine wv rfl (r_extract rfl rfl) ?_
    refine wv rfl (r_extract rfl rfl) ?_
    refine wv rfl (r_assign rfl) ?_
    refine wv rfl (r_assign rfl) ?_
    refine wl_nil ?_
    refine sq_n ?_
    refine wc_seq ?_
    refine wc_region ?_
    refine wv rfl (r_ldBS Try.underlying25 sz25 rfl (us := [(.int .i64 r335.1.n), s338.v, s339.v]) rfl hM (.tail _ (.head _)) rfl) ?_
    refine wv rfl (r_move rfl) ?_
    obtain ⟨r366, h367, hx⟩ := bind_some' hx
    refine w_call rfl rfl (hM.callO (l := []) fun X S oL hS hR hO => ct_impl_PastUndo _ X S r335.1 s338 s339 r354.1 s357 hS (seeA hO (.tail _ (.tail _ (.head _)))) (seeA hO (.tail _ (.tail _ (.tail _ (.head _))))) (seeA hO (.head _)) oL h367) ?_
    rintro _ w368 ⟨⟨s369, s370, s371⟩, rfl, hM⟩
    replace hM : St ⟨w, X, S⟩ [oC (cSl 1 fLDPart r366.1.undo) s369.v, oC (cSl 1 fLDPart r366.1.redo) s370.v, oC (cSl 3 fDPart r366.2.1) s371.v, oC (cSl 1 fI r354.1) s357.v, oBox b346 #[(.int .i64 r335.1.n), s338.v, s339.v] 25, oC (cSl 1 fLDPart r335.1.undo) s338.v, oC (cSl 1 fLDPart r335.1.redo) s339.v, oC (cSl 3 fDPart r327) s330.v, oC (cSl 1 fY ([7] ++ code)) s322.v, oC (cSl 1 fI r305.1) s308.v, oBox b297 #[(.int .i64 r286.1.n), s289.v, s290.v] 25, oC (cSl 1 fLDPart r286.1.undo) s289.v, oC (cSl 1 fLDPart r286.1.redo) s290.v, oC (cSl 3 fDPart r277) s280.v, oBox b268 #[(.int .i64 r255.1.n), s258.v, s259.v] 25, oC (cSl 1 fLDPart r255.1.undo) s258.v, oC (cSl 1 fLDPart r255.1.redo) s259.v, oC (cSl 1 fI r255.2) s260.v] [rV s_code.v (cSl 1 fY code)] _ := hM
    refine wv rfl (r_move rfl) ?_
    refine wv rfl (r_extract rfl rfl) ?_
    refine wv rfl (r_extract rfl rfl) ?_
    refine wv rfl (r_extract rfl rfl) ?_
    refine w_ex rfl (x_alloc sz25 hM ?_); intro b380 w379 hR381 hM
    replace hM : St ⟨w, X, S⟩ [oBox b380 #[(.int .i64 0), (.slice none 0 0), (.slice none 0 0)] 25, oC (cSl 1 fLDPart r366.1.undo) s369.v, oC (cSl 1 fLDPart r366.1.redo) s370.v, oC (cSl 3 fDPart r366.2.1) s371.v, oC (cSl 1 fI r354.1) s357.v, oBox b346 #[(.int .i64 r335.1.n), s338.v, s339.v] 25, oC (cSl 1 fLDPart r335.1.undo) s338.v, oC (cSl 1 fLDPart r335.1.redo) s339.v, oC (cSl 3 fDPart r327) s330.v, oC (cSl 1 fY ([7] ++ code)) s322.v, oC (cSl 1 fI r305.1) s308.v, oBox b297 #[(.int .i64 r286.1.n), s289.v, s290.v] 25, oC (cSl 1 fLDPart r286.1.undo) s289.v, oC (cSl 1 fLDPart r286.1.redo) s290.v, oC (cSl 3 fDPart r277) s280.v, oBox b268 #[(.int .i64 r255.1.n), s258.v, s259.v] 25, oC (cSl 1 fLDPart r255.1.undo) s258.v, oC (cSl 1 fLDPart r255.1.redo) s259.v, oC (cSl 1 fI r255.2) s260.v] [rV s_code.v (cSl 1 fY code)] _ := hM
    refine w_exu (x_stB #[(.int .i64 r366.1.n), s369.v, s370.v] sz25 rfl rfl rfl rfl rfl rfl hM ?_); intro w383 hM
    refine wv rfl (r_assign rfl) ?_
    refine wv rfl (r_assign rfl) ?_
    refine wl_nil ?_
    refine sq_n ?_
    refine wc_seq ?_
    refine wc_region ?_
    refine wv rfl (r_move rfl) ?_
    refine wv rfl (r_move rfl) ?_
    obtain ⟨r389, h390, hx⟩ := bind_some' hx
    refine w_call rfl rfl (hM.callO (l := []) fun X S oL hS hR hO => ct_impl_Apply _ X S r366.2.1 s371 r354.1 s357 hS (seeA hO (.tail _ (.tail _ (.tail _ (.head _))))) (seeA hO (.tail _ (.tail _ (.tail _ (.tail _ (.head _)))))) oL h390) ?_
    rintro _ w391 ⟨s392, rfl, hM⟩
    replace hM : St ⟨w, X, S⟩ [oC (cSl 1 fI r389.1) s392.v, oBox b380 #[(.int .i64 r366.1.n), s369.v, s370.v] 25, oC (cSl 1 fLDPart r366.1.undo) s369.v, oC (cSl 1 fLDPart r366.1.redo) s370.v, oC (cSl 3 fDPart r366.2.1) s371.v, oC (cSl 1 fI r354.1) s357.v, oBox b346 #[(.int .i64 r335.1.n), s338.v, s339.v] 25, oC (cSl 1 fLDPart r335.1.undo) s338.v, oC (cSl 1 fLDPart r335.1.redo) s339.v, oC (cSl 3 fDPart r327) s330.v, oC (cSl 1 fY ([7] ++ code)) s322.v, oC (cSl 1 fI r305.1) s308.v, oBox b297 #[(.int .i64 r286.1.n), s289.v, s290.v] 25, oC (cSl 1 fLDPart r286.1.undo) s289.v, oC (cSl 1 fLDPart r286.1.redo) s290.v, oC (cSl 3 fDPart r277) s280.v, oBox b268 #[(.int .i64 r255.1.n), s258.v, s259.v] 25, oC (cSl 1 fLDPart r255.1.undo) s258.v, oC (cSl 1 fLDPart r255.1.redo) s259.v, oC (cSl 1 fI r255.2) s260.v] [rV s_code.v (cSl 1 fY code)] _ := hM
    refine wv rfl (r_move rfl) ?_
    refine wv rfl (r_extract rfl rfl) ?_
    refine wv rfl (r_extract rfl rfl) ?_
    refine wv rfl (r_assign rfl) ?_
    refine wv rfl (r_assign rfl) ?_
    refine wl_nil ?_
    refine sq_n ?_
    refine wc_seq ?_
    refine wc_region ?_
    refine wv rfl (r_move rfl) ?_
    refine wv rfl (r_move rfl) ?_
    obtain ⟨r401, h402, hx⟩ := bind_some' hx
    refine w_call rfl rfl (hM.callO (l := []) fun X S oL hS hR hO => ct_impl_Invert _ X S r277 s280 r255.2 s260 hS (seeA hO (.tail _ (.tail _ (.tail _ (.tail _ (.tail _ (.tail _ (.tail _ (.tail _ (.tail _ (.tail _ (.tail _ (.tail _ (.tail _ (.tail _ (.tail _ (.head _))))))))))))))))) (seeA hO (.tail _ (.tail _ (.tail _ (.tail _ (.tail _ (.tail _ (.tail _ (.tail _ (.tail _ (.tail _ (.tail _ (.tail _ (.tail _ (.tail _ (.tail _ (.tail _ (.tail _ (.tail _ (.tail _ (.head _))))))))))))))))))))) oL h402) ?_
    rintro _ w403 ⟨s404, rfl, hM⟩
    replace hM : St ⟨w, X, S⟩ [oC (cSl 3 fDPart r401.1) s404.v, oC (cSl 1 fI r389.1) s392.v, oBox b380 #[(.int .i64 r366.1.n), s369.v, s370.v] 25, oC (cSl 1 fLDPart r366.1.undo) s369.v, oC (cSl 1 fLDPart r366.1.redo) s370.v, oC (cSl 3 fDPart r366.2.1) s371.v, oC (cSl 1 fI r354.1) s357.v, oBox b346 #[(.int .i64 r335.1.n), s338.v, s339.v] 25, oC (cSl 1 fLDPart r335.1.undo) s338.v, oC (cSl 1 fLDPart r335.1.redo) s339.v, oC (cSl 3 fDPart r327) s330.v, oC (cSl 1 fY ([7] ++ code)) s322.v, oC (cSl 1 fI r305.1) s308.v, oBox b297 #[(.int .i64 r286.1.n), s289.v, s290.v] 25, oC (cSl 1 fLDPart r286.1.undo) s289.v, oC (cSl 1 fLDPart r286.1.redo) s290.v, oC (cSl 3 fDPart r277) s280.v, oBox b268 #[(.int .i64 r255.1.n), s258.v, s259.v] 25, oC (cSl 1 fLDPart r255.1.undo) s258.v, oC (cSl 1 fLDPart r255.1.redo) s259.v, oC (cSl 1 fI r255.2) s260.v] [rV s_code.v (cSl 1 fY code)] _ := hM
    refine wv rfl (r_move rfl) ?_
    refine wv rfl (r_extract rfl rfl) ?_
    refine wv rfl (r_extract rfl rfl) ?_
    refine wv rfl (r_assign rfl) ?_
    refine wv rfl (r_assign rfl) ?_
    refine wl_nil ?_
    refine sq_n ?_
    refine wc_seq ?_
    refine wc_region ?_
    refine wv rfl (r_move rfl) ?_
    refine wv rfl (r_move rfl) ?_
    obtain ⟨r413, h414, hx⟩ := bind_some' hx
    refine w_call rfl rfl (hM.callO (l := []) fun X S oL hS hR hO => ct_impl_Transform _ X S r327 s330 r401.1 s404 hS (seeA hO (.tail _ (.tail _ (.tail _ (.tail _ (.tail _ (.tail _ (.tail _ (.tail _ (.tail _ (.tail _ (.head _)))))))))))) (seeA hO (.head _)) oL h414) ?_
    rintro _ w415 ⟨⟨s416, s417⟩, rfl, hM⟩
    replace hM : St ⟨w, X, S⟩ [oC (cSl 3 fDPart r413.1) s416.v, oC (cSl 3 fDPart r413.2.1) s417.v, oC (cSl 3 fDPart r401.1) s404.v, oC (cSl 1 fI r389.1) s392.v, oBox b380 #[(.int .i64 r366.1.n), s369.v, s370.v] 25, oC (cSl 1 fLDPart r366.1.undo) s369.v, oC (cSl 1 fLDPart r366.1.redo) s370.v, oC (cSl 3 fDPart r366.2.1) s371.v, oC (cSl 1 fI r354.1) s357.v, oBox b346 #[(.int .i64 r335.1.n), s338.v, s339.v] 25, oC (cSl 1 fLDPart r335.1.undo) s338.v, oC (cSl 1 fLDPart r335.1.redo) s339.v, oC (cSl 3 fDPart r327) s330.v, oC (cSl 1 fY ([7] ++ code)) s322.v, oC (cSl 1 fI r305.1) s308.v, oBox b297 #[(.int .i64 r286.1.n), s289.v, s290.v] 25, oC (cSl 1 fLDPart r286.1.undo) s289.v, oC (cSl 1 fLDPart r286.1.redo) s290.v, oC (cSl 3 fDPart r277) s280.v, oBox b268 #[(.int .i64 r255.1.n), s258.v, s259.v] 25, oC (cSl 1 fLDPart r255.1.undo) s258.v, oC (cSl 1 fLDPart r255.1.redo) s259.v, oC (cSl 1 fI r255.2) s260.v] [rV s_code.v (cSl 1 fY code)] _ := hM
    refine wv rfl (r_move rfl) ?_
    refine wv rfl (r_extract rfl rfl) ?_
    refine wv rfl (r_extract rfl rfl) ?_
    refine wv rfl (r_extract rfl rfl) ?_
    refine wv rfl (r_assign rfl) ?_
    refine wv rfl (r_assign rfl) ?_
    refine wv rfl (r_assign rfl) ?_
    refine wl_nil ?_
    refine sq_n ?_
    refine wc_seq ?_
    refine wc_region ?_
    refine wv rfl (r_move rfl) ?_
    refine wv rfl (r_move rfl) ?_
    obtain ⟨r429, h430, hx⟩ := bind_some' hx
    refine w_call rfl rfl (hM.callO (l := []) fun X S oL hS hR hO => ct_impl_Apply _ X S r413.1 s416 r255.2 s260 hS (seeA hO (.head _)) (seeA hO (.tail _ (.tail _ (.tail _ (.tail _ (.tail _ (.tail _ (.tail _ (.tail _ (.tail _ (.tail _ (.tail _ (.tail _ (.tail _ (.tail _ (.tail _ (.tail _ (.tail _ (.tail _ (.tail _ (.tail _ (.tail _ (.tail _ (.head _)))))))))))))))))))))))) oL h430) ?_
    rintro _ w431 ⟨s432, rfl, hM⟩
    replace hM : St ⟨w, X, S⟩ [oC (cSl 1 fI r429.1) s432.v, oC (cSl 3 fDPart r413.1) s416.v, oC (cSl 3 fDPart r413.2.1) s417.v, oC (cSl 3 fDPart r401.1) s404.v, oC (cSl 1 fI r389.1) s392.v, oBox b380 #[(.int .i64 r366.1.n), s369.v, s370.v] 25, oC (cSl 1 fLDPart r366.1.undo) s369.v, oC (cSl 1 fLDPart r366.1.redo) s370.v, oC (cSl 3 fDPart r366.2.1) s371.v, oC (cSl 1 fI r354.1) s357.v, oBox b346 #[(.int .i64 r335.1.n), s338.v, s339.v] 25, oC (cSl 1 fLDPart r335.1.undo) s338.v, oC (cSl 1 fLDPart r335.1.redo) s339.v, oC (cSl 3 fDPart r327) s330.v, oC (cSl 1 fY ([7] ++ code)) s322.v, oC (cSl 1 fI r305.1) s308.v, oBox b297 #[(.int .i64 r286.1.n), s289.v, s290.v] 25, oC (cSl 1 fLDPart r286.1.undo) s289.v, oC (cSl 1 fLDPart r286.1.redo) s290.v, oC (cSl 3 fDPart r277) s280.v, oBox b268 #[(.int .i64 r255.1.n), s258.v, s259.v] 25, oC (cSl 1 fLDPart r255.1.undo) s258.v, oC (cSl 1 fLDPart r255.1.redo) s259.v, oC (cSl 1 fI r255.2) s260.v] [rV s_code.v (cSl 1 fY code)] _ := hM
    refine wv rfl (r_move rfl) ?_
    refine wv rfl (r_extract rfl rfl) ?_
    refine wv rfl (r_extract rfl rfl) ?_
    refine wv rfl (r_assign rfl) ?_
    refine wv rfl (r_assign rfl) ?_
    refine wl_nil ?_
    refine sq_n ?_
    refine wc_seq ?_
    refine wc_region ?_
    refine wv rfl (r_move rfl) ?_
    refine wv rfl (r_move rfl) ?_
    obtain ⟨c441, hx, hx444⟩ := bind_some' hx
    refine wl_mid 2 (fun _ : Unit => [(105, (.bool c441)), (12, (.bool r335.2)), (14, (.bool r354.2)), (17, (.bool r366.2.2)), (18, s392.v), (19, (.bool r389.2)), (21, (.bool r401.2)), (24, (.bool r413.2.2)), (25, s432.v), (26, (.bool r429.2))]) (fun _ w' => St ⟨w, X, S⟩ [oC (cSl 1 fI r429.1) s432.v, oC (cSl 3 fDPart r413.1) s416.v, oC (cSl 3 fDPart r413.2.1) s417.v, oC (cSl 3 fDPart r401.1) s404.v, oC (cSl 1 fI r389.1) s392.v, oBox b380 #[(.int .i64 r366.1.n), s369.v, s370.v] 25, oC (cSl 1 fLDPart r366.1.undo) s369.v, oC (cSl 1 fLDPart r366.1.redo) s370.v, oC (cSl 3 fDPart r366.2.1) s371.v, oC (cSl 1 fI r354.1) s357.v, oBox b346 #[(.int .i64 r335.1.n), s338.v, s339.v] 25, oC (cSl 1 fLDPart r335.1.undo) s338.v, oC (cSl 1 fLDPart r335.1.redo) s339.v, oC (cSl 3 fDPart r327) s330.v, oC (cSl 1 fY ([7] ++ code)) s322.v, oC (cSl 1 fI r305.1) s308.v, oBox b297 #[(.int .i64 r286.1.n), s289.v, s290.v] 25, oC (cSl 1 fLDPart r286.1.undo) s289.v, oC (cSl 1 fLDPart r286.1.redo) s290.v, oC (cSl 3 fDPart r277) s280.v, oBox b268 #[(.int .i64 r255.1.n), s258.v, s259.v] 25, oC (cSl 1 fLDPart r255.1.undo) s258.v, oC (cSl 1 fLDPart r255.1.redo) s259.v, oC (cSl 1 fI r255.2) s260.v] [rV s_code.v (cSl 1 fY code)] w') ?_ ?_
    · rcases Bool.eq_false_or_eq_true r286.2 with hg442 | hg442
      · replace hx := xif_t hg442 hx
        refine gv rfl hg442 rfl (r_move rfl) ?_
        refine wv rfl (p_t rfl hg442 rfl) ?_
        obtain rfl := Option.some.inj hx
        exact mid_nil () ⟨rfl, rfl, rfl, rfl, rfl, rfl, rfl, rfl, rfl, rfl, trivial⟩ hM
      · replace hx := xif_f hg442 hx
        refine gs rfl (isB_no hg442) rfl ?_
        refine wv rfl (p_f rfl hg442 rfl) ?_
        obtain rfl := Option.some.inj hx
        exact mid_nil () ⟨rfl, rfl, rfl, rfl, rfl, rfl, rfl, rfl, rfl, rfl, trivial⟩ hM
    rintro _ w446 hM
    replace hx := hx444
    refine wv rfl (r_move rfl) ?_
    obtain ⟨c448, hx, hx451⟩ := bind_some' hx
    refine wl_mid 2 (fun _ : Unit => [(108, (.bool c448)), (14, (.bool r354.2)), (17, (.bool r366.2.2)), (18, s392.v), (19, (.bool r389.2)), (21, (.bool r401.2)), (24, (.bool r413.2.2)), (25, s432.v), (26, (.bool r429.2))]) (fun _ w' => St ⟨w, X, S⟩ [oC (cSl 1 fI r429.1) s432.v, oC (cSl 3 fDPart r413.1) s416.v, oC (cSl 3 fDPart r413.2.1) s417.v, oC (cSl 3 fDPart r401.1) s404.v, oC (cSl 1 fI r389.1) s392.v, oBox b380 #[(.int .i64 r366.1.n), s369.v, s370.v] 25, oC (cSl 1 fLDPart r366.1.undo) s369.v, oC (cSl 1 fLDPart r366.1.redo) s370.v, oC (cSl 3 fDPart r366.2.1) s371.v, oC (cSl 1 fI r354.1) s357.v, oBox b346 #[(.int .i64 r335.1.n), s338.v, s339.v] 25, oC (cSl 1 fLDPart r335.1.undo) s338.v, oC (cSl 1 fLDPart r335.1.redo) s339.v, oC (cSl 3 fDPart r327) s330.v, oC (cSl 1 fY ([7] ++ code)) s322.v, oC (cSl 1 fI r305.1) s308.v, oBox b297 #[(.int .i64 r286.1.n), s289.v, s290.v] 25, oC (cSl 1 fLDPart r286.1.undo) s289.v, oC (cSl 1 fLDPart r286.1.redo) s290.v, oC (cSl 3 fDPart r277) s280.v, oBox b268 #[(.int .i64 r255.1.n), s258.v, s259.v] 25, oC (cSl 1 fLDPart r255.1.undo) s258.v, oC (cSl 1 fLDPart r255.1.redo) s259.v, oC (cSl 1 fI r255.2) s260.v] [rV s_code.v (cSl 1 fY code)] w') ?_ ?_
    · rcases Bool.eq_false_or_eq_true c441 with hg449 | hg449
      · replace hx := xif_t hg449 hx
        refine gv rfl hg449 rfl (r_move rfl) ?_
        refine wv rfl (p_t rfl hg449 rfl) ?_
        obtain rfl := Option.some.inj hx
        exact mid_nil () ⟨rfl, rfl, rfl, rfl, rfl, rfl, rfl, rfl, rfl, trivial⟩ hM
      · replace hx := xif_f hg449 hx
        refine gs rfl (isB_no hg449) rfl ?_
        refine wv rfl (p_f rfl hg449 rfl) ?_
        obtain rfl := Option.some.inj hx
        exact mid_nil () ⟨rfl, rfl, rfl, rfl, rfl, rfl, rfl, rfl, rfl, trivial⟩ hM
    rintro _ w453 hM
    replace hx := hx451
    refine wv rfl (r_move rfl) ?_
    obtain ⟨c455, hx, hx458⟩ := bind_some' hx
    refine wl_mid 2 (fun _ : Unit => [(111, (.bool c455)), (17, (.bool r366.2.2)), (18, s392.v), (19, (.bool r389.2)), (21, (.bool r401.2)), (24, (.bool r413.2.2)), (25, s432.v), (26, (.bool r429.2))]) (fun _ w' => St ⟨w, X, S⟩ [oC (cSl 1 fI r429.1) s432.v, oC (cSl 3 fDPart r413.1) s416.v, oC (cSl 3 fDPart r413.2.1) s417.v, oC (cSl 3 fDPart r401.1) s404.v, oC (cSl 1 fI r389.1) s392.v, oBox b380 #[(.int .i64 r366.1.n), s369.v, s370.v] 25, oC (cSl 1 fLDPart r366.1.undo) s369.v, oC (cSl 1 fLDPart r366.1.redo) s370.v, oC (cSl 3 fDPart r366.2.1) s371.v, oC (cSl 1 fI r354.1) s357.v, oBox b346 #[(.int .i64 r335.1.n), s338.v, s339.v] 25, oC (cSl 1 fLDPart r335.1.undo) s338.v, oC (cSl 1 fLDPart r335.1.redo) s339.v, oC (cSl 3 fDPart r327) s330.v, oC (cSl 1 fY ([7] ++ code)) s322.v, oC (cSl 1 fI r305.1) s308.v, oBox b297 #[(.int .i64 r286.1.n), s289.v, s290.v] 25, oC (cSl 1 fLDPart r286.1.undo) s289.v, oC (cSl 1 fLDPart r286.1.redo) s290.v, oC (cSl 3 fDPart r277) s280.v, oBox b268 #[(.int .i64 r255.1.n), s258.v, s259.v] 25, oC (cSl 1 fLDPart r255.1.undo) s258.v, oC (cSl 1 fLDPart r255.1.redo) s259.v, oC (cSl 1 fI r255.2) s260.v] [rV s_code.v (cSl 1 fY code)] w') ?_ ?_
    · rcases Bool.eq_false_or_eq_true c448 with hg456 | hg456
      · replace hx := xif_t hg456 hx
        refine gv rfl hg456 rfl (r_move rfl) ?_
        refine wv rfl (p_t rfl hg456 rfl) ?_
        obtain rfl := Option.some.inj hx
        exact mid_nil () ⟨rfl, rfl, rfl, rfl, rfl, rfl, rfl, rfl, trivial⟩ hM
      · replace hx := xif_f hg456 hx
        refine gs rfl (isB_no hg456) rfl ?_
        refine wv rfl (p_f rfl hg456 rfl) ?_
        obtain rfl := Option.some.inj hx
        exact mid_nil () ⟨rfl, rfl, rfl, rfl, rfl, rfl, rfl, rfl, trivial⟩ hM
    rintro _ w460 hM
    replace hx := hx458
    refine wv rfl (r_move rfl) ?_
    obtain ⟨c462, hx, hx465⟩ := bind_some' hx
    refine wl_mid 2 (fun _ : Unit => [(114, (.bool c462)), (18, s392.v), (19, (.bool r389.2)), (21, (.bool r401.2)), (24, (.bool r413.2.2)), (25, s432.v), (26, (.bool r429.2))]) (fun _ w' => St ⟨w, X, S⟩ [oC (cSl 1 fI r429.1) s432.v, oC (cSl 3 fDPart r413.1) s416.v, oC (cSl 3 fDPart r413.2.1) s417.v, oC (cSl 3 fDPart r401.1) s404.v, oC (cSl 1 fI r389.1) s392.v, oBox b380 #[(.int .i64 r366.1.n), s369.v, s370.v] 25, oC (cSl 1 fLDPart r366.1.undo) s369.v, oC (cSl 1 fLDPart r366.1.redo) s370.v, oC (cSl 3 fDPart r366.2.1) s371.v, oC (cSl 1 fI r354.1) s357.v, oBox b346 #[(.int .i64 r335.1.n), s338.v, s339.v] 25, oC (cSl 1 fLDPart r335.1.undo) s338.v, oC (cSl 1 fLDPart r335.1.redo) s339.v, oC (cSl 3 fDPart r327) s330.v, oC (cSl 1 fY ([7] ++ code)) s322.v, oC (cSl 1 fI r305.1) s308.v, oBox b297 #[(.int .i64 r286.1.n), s289.v, s290.v] 25, oC (cSl 1 fLDPart r286.1.undo) s289.v, oC (cSl 1 fLDPart r286.1.redo) s290.v, oC (cSl 3 fDPart r277) s280.v, oBox b268 #[(.int .i64 r255.1.n), s258.v, s259.v] 25, oC (cSl 1 fLDPart r255.1.undo) s258.v, oC (cSl 1 fLDPart r255.1.redo) s259.v, oC (cSl 1 fI r255.2) s260.v] [rV s_code.v (cSl 1 fY code)] w') ?_ ?_
    · rcases Bool.eq_false_or_eq_true c455 with hg463 | hg463
      · replace hx := xif_t hg463 hx
        refine gv rfl hg463 rfl (r_move rfl) ?_
        refine wv rfl (p_t rfl hg463 rfl) ?_
        obtain rfl := Option.some.inj hx
        exact mid_nil () ⟨rfl, rfl, rfl, rfl, rfl, rfl, rfl, trivial⟩ hM
      · replace hx := xif_f hg463 hx
        refine gs rfl (isB_no hg463) rfl ?_
        refine wv rfl (p_f rfl hg463 rfl) ?_
        obtain rfl := Option.some.inj hx
        exact mid_nil () ⟨rfl, rfl, rfl, rfl, rfl, rfl, rfl, trivial⟩ hM
    rintro _ w467 hM
    replace hx := hx465
    refine wv rfl (r_move rfl) ?_
    obtain ⟨c469, hx, hx472⟩ := bind_some' hx
    refine wl_mid 2 (fun _ : Unit => [(117, (.bool c469)), (18, s392.v), (21, (.bool r401.2)), (24, (.bool r413.2.2)), (25, s432.v), (26, (.bool r429.2))]) (fun _ w' => St ⟨w, X, S⟩ [oC (cSl 1 fI r429.1) s432.v, oC (cSl 3 fDPart r413.1) s416.v, oC (cSl 3 fDPart r413.2.1) s417.v, oC (cSl 3 fDPart r401.1) s404.v, oC (cSl 1 fI r389.1) s392.v, oBox b380 #[(.int .i64 r366.1.n), s369.v, s370.v] 25, oC (cSl 1 fLDPart r366.1.undo) s369.v, oC (cSl 1 fLDPart r366.1.redo) s370.v, oC (cSl 3 fDPart r366.2.1) s371.v, oC (cSl 1 fI r354.1) s357.v, oBox b346 #[(.int .i64 r335.1.n), s338.v, s339.v] 25, oC (cSl 1 fLDPart r335.1.undo) s338.v, oC (cSl 1 fLDPart r335.1.redo) s339.v, oC (cSl 3 fDPart r327) s330.v, oC (cSl 1 fY ([7] ++ code)) s322.v, oC (cSl 1 fI r305.1) s308.v, oBox b297 #[(.int .i64 r286.1.n), s289.v, s290.v] 25, oC (cSl 1 fLDPart r286.1.undo) s289.v, oC (cSl 1 fLDPart r286.1.redo) s290.v, oC (cSl 3 fDPart r277) s280.v, oBox b268 #[(.int .i64 r255.1.n), s258.v, s259.v] 25, oC (cSl 1 fLDPart r255.1.undo) s258.v, oC (cSl 1 fLDPart r255.1.redo) s259.v, oC (cSl 1 fI r255.2) s260.v] [rV s_code.v (cSl 1 fY code)] w') ?_ ?_
    · rcases Bool.eq_false_or_eq_true c462 with hg470 | hg470
      · replace hx := xif_t hg470 hx
        refine gv rfl hg470 rfl (r_move rfl) ?_
        refine wv rfl (p_t rfl hg470 rfl) ?_
        obtain rfl := Option.some.inj hx
        exact mid_nil () ⟨rfl, rfl, rfl, rfl, rfl, rfl, trivial⟩ hM
      · replace hx := xif_f hg470 hx
        refine gs rfl (isB_no hg470) rfl ?_
        refine wv rfl (p_f rfl hg470 rfl) ?_
        obtain rfl := Option.some.inj hx
        exact mid_nil () ⟨rfl, rfl, rfl, rfl, rfl, rfl, trivial⟩ hM
    rintro _ w474 hM
    replace hx := hx472
    refine wv rfl (r_move rfl) ?_
    obtain ⟨c476, hx, hx479⟩ := bind_some' hx
    refine wl_mid 2 (fun _ : Unit => [(120, (.bool c476)), (18, s392.v), (24, (.bool r413.2.2)), (25, s432.v), (26, (.bool r429.2))]) (fun _ w' => St ⟨w, X, S⟩ [oC (cSl 1 fI r429.1) s432.v, oC (cSl 3 fDPart r413.1) s416.v, oC (cSl 3 fDPart r413.2.1) s417.v, oC (cSl 3 fDPart r401.1) s404.v, oC (cSl 1 fI r389.1) s392.v, oBox b380 #[(.int .i64 r366.1.n), s369.v, s370.v] 25, oC (cSl 1 fLDPart r366.1.undo) s369.v, oC (cSl 1 fLDPart r366.1.redo) s370.v, oC (cSl 3 fDPart r366.2.1) s371.v, oC (cSl 1 fI r354.1) s357.v, oBox b346 #[(.int .i64 r335.1.n), s338.v, s339.v] 25, oC (cSl 1 fLDPart r335.1.undo) s338.v, oC (cSl 1 fLDPart r335.1.redo) s339.v, oC (cSl 3 fDPart r327) s330.v, oC (cSl 1 fY ([7] ++ code)) s322.v, oC (cSl 1 fI r305.1) s308.v, oBox b297 #[(.int .i64 r286.1.n), s289.v, s290.v] 25, oC (cSl 1 fLDPart r286.1.undo) s289.v, oC (cSl 1 fLDPart r286.1.redo) s290.v, oC (cSl 3 fDPart r277) s280.v, oBox b268 #[(.int .i64 r255.1.n), s258.v, s259.v] 25, oC (cSl 1 fLDPart r255.1.undo) s258.v, oC (cSl 1 fLDPart r255.1.redo) s259.v, oC (cSl 1 fI r255.2) s260.v] [rV s_code.v (cSl 1 fY code)] w') ?_ ?_
    · rcases Bool.eq_false_or_eq_true c469 with hg477 | hg477
      · replace hx := xif_t hg477 hx
        refine gv rfl hg477 rfl (r_move rfl) ?_
        refine wv rfl (p_t rfl hg477 rfl) ?_
        obtain rfl := Option.some.inj hx
        exact mid_nil () ⟨rfl, rfl, rfl, rfl, rfl, trivial⟩ hM
      · replace hx := xif_f hg477 hx
        refine gs rfl (isB_no hg477) rfl ?_
        refine wv rfl (p_f rfl hg477 rfl) ?_
        obtain rfl := Option.some.inj hx
        exact mid_nil () ⟨rfl, rfl, rfl, rfl, rfl, trivial⟩ hM
    rintro _ w481 hM
    replace hx := hx479
    refine wv rfl (r_move rfl) ?_
    obtain ⟨c483, hx, hx486⟩ := bind_some' hx
    refine wl_mid 2 (fun _ : Unit => [(123, (.bool c483)), (18, s392.v), (25, s432.v), (26, (.bool r429.2))]) (fun _ w' => St ⟨w, X, S⟩ [oC (cSl 1 fI r429.1) s432.v, oC (cSl 3 fDPart r413.1) s416.v, oC (cSl 3 fDPart r413.2.1) s417.v, oC (cSl 3 fDPart r401.1) s404.v, oC (cSl 1 fI r389.1) s392.v, oBox b380 #[(.int .i64 r366.1.n), s369.v, s370.v] 25, oC (cSl 1 fLDPart r366.1.undo) s369.v, oC (cSl 1 fLDPart r366.1.redo) s370.v, oC (cSl 3 fDPart r366.2.1) s371.v, oC (cSl 1 fI r354.1) s357.v, oBox b346 #[(.int .i64 r335.1.n), s338.v, s339.v] 25, oC (cSl 1 fLDPart r335.1.undo) s338.v, oC (cSl 1 fLDPart r335.1.redo) s339.v, oC (cSl 3 fDPart r327) s330.v, oC (cSl 1 fY ([7] ++ code)) s322.v, oC (cSl 1 fI r305.1) s308.v, oBox b297 #[(.int .i64 r286.1.n), s289.v, s290.v] 25, oC (cSl 1 fLDPart r286.1.undo) s289.v, oC (cSl 1 fLDPart r286.1.redo) s290.v, oC (cSl 3 fDPart r277) s280.v, oBox b268 #[(.int .i64 r255.1.n), s258.v, s259.v] 25, oC (cSl 1 fLDPart r255.1.undo) s258.v, oC (cSl 1 fLDPart r255.1.redo) s259.v, oC (cSl 1 fI r255.2) s260.v] [rV s_code.v (cSl 1 fY code)] w') ?_ ?_
    · rcases Bool.eq_false_or_eq_true c476 with hg484 | hg484
      · replace hx := xif_t hg484 hx
        refine gv rfl hg484 rfl (r_move rfl) ?_
        refine wv rfl (p_t rfl hg484 rfl) ?_
        obtain rfl := Option.some.inj hx
        exact mid_nil () ⟨rfl, rfl, rfl, rfl, trivial⟩ hM
      · replace hx := xif_f hg484 hx
        refine gs rfl (isB_no hg484) rfl ?_
        refine wv rfl (p_f rfl hg484 rfl) ?_
        obtain rfl := Option.some.inj hx
        exact mid_nil () ⟨rfl, rfl, rfl, rfl, trivial⟩ hM
    rintro _ w488 hM
    replace hx := hx486
    refine wv rfl (r_move rfl) ?_
    obtain ⟨c490, hx, hx493⟩ := bind_some' hx
    refine wl_mid 2 (fun _ : Unit => [(126, (.bool c490)), (18, s392.v), (25, s432.v)]) (fun _ w' => St ⟨w, X, S⟩ [oC (cSl 1 fI r429.1) s432.v, oC (cSl 3 fDPart r413.1) s416.v, oC (cSl 3 fDPart r413.2.1) s417.v, oC (cSl 3 fDPart r401.1) s404.v, oC (cSl 1 fI r389.1) s392.v, oBox b380 #[(.int .i64 r366.1.n), s369.v, s370.v] 25, oC (cSl 1 fLDPart r366.1.undo) s369.v, oC (cSl 1 fLDPart r366.1.redo) s370.v, oC (cSl 3 fDPart r366.2.1) s371.v, oC (cSl 1 fI r354.1) s357.v, oBox b346 #[(.int .i64 r335.1.n), s338.v, s339.v] 25, oC (cSl 1 fLDPart r335.1.undo) s338.v, oC (cSl 1 fLDPart r335.1.redo) s339.v, oC (cSl 3 fDPart r327) s330.v, oC (cSl 1 fY ([7] ++ code)) s322.v, oC (cSl 1 fI r305.1) s308.v, oBox b297 #[(.int .i64 r286.1.n), s289.v, s290.v] 25, oC (cSl 1 fLDPart r286.1.undo) s289.v, oC (cSl 1 fLDPart r286.1.redo) s290.v, oC (cSl 3 fDPart r277) s280.v, oBox b268 #[(.int .i64 r255.1.n), s258.v, s259.v] 25, oC (cSl 1 fLDPart r255.1.undo) s258.v, oC (cSl 1 fLDPart r255.1.redo) s259.v, oC (cSl 1 fI r255.2) s260.v] [rV s_code.v (cSl 1 fY code)] w') ?_ ?_
    · rcases Bool.eq_false_or_eq_true c483 with hg491 | hg491
      · replace hx := xif_t hg491 hx
        refine gv rfl hg491 rfl (r_move rfl) ?_
        refine wv rfl (p_t rfl hg491 rfl) ?_
        obtain rfl := Option.some.inj hx
        exact mid_nil () ⟨rfl, rfl, rfl, trivial⟩ hM
      · replace hx := xif_f hg491 hx
        refine gs rfl (isB_no hg491) rfl ?_
        refine wv rfl (p_f rfl hg491 rfl) ?_
        obtain rfl := Option.some.inj hx
        exact mid_nil () ⟨rfl, rfl, rfl, trivial⟩ hM
    rintro _ w495 hM
    replace hx := hx493
    refine wv rfl (r_move rfl) ?_
    obtain ⟨c497, hx, hx505⟩ := bind_some' hx
    refine wl_mid 4 (fun _ : Unit => [(131, (.bool c497))]) (fun _ w' => St ⟨w, X, S⟩ [oC (cSl 1 fI r429.1) s432.v, oC (cSl 3 fDPart r413.1) s416.v, oC (cSl 3 fDPart r413.2.1) s417.v, oC (cSl 3 fDPart r401.1) s404.v, oC (cSl 1 fI r389.1) s392.v, oBox b380 #[(.int .i64 r366.1.n), s369.v, s370.v] 25, oC (cSl 1 fLDPart r366.1.undo) s369.v, oC (cSl 1 fLDPart r366.1.redo) s370.v, oC (cSl 3 fDPart r366.2.1) s371.v, oC (cSl 1 fI r354.1) s357.v, oBox b346 #[(.int .i64 r335.1.n), s338.v, s339.v] 25, oC (cSl 1 fLDPart r335.1.undo) s338.v, oC (cSl 1 fLDPart r335.1.redo) s339.v, oC (cSl 3 fDPart r327) s330.v, oC (cSl 1 fY ([7] ++ code)) s322.v, oC (cSl 1 fI r305.1) s308.v, oBox b297 #[(.int .i64 r286.1.n), s289.v, s290.v] 25, oC (cSl 1 fLDPart r286.1.undo) s289.v, oC (cSl 1 fLDPart r286.1.redo) s290.v, oC (cSl 3 fDPart r277) s280.v, oBox b268 #[(.int .i64 r255.1.n), s258.v, s259.v] 25, oC (cSl 1 fLDPart r255.1.undo) s258.v, oC (cSl 1 fLDPart r255.1.redo) s259.v, oC (cSl 1 fI r255.2) s260.v] [rV s_code.v (cSl 1 fY code)] w') ?_ ?_
    · rcases Bool.eq_false_or_eq_true c490 with hg498 | hg498
      · replace hx := xif_t hg498 hx
        refine gv rfl hg498 rfl (r_move rfl) ?_
        refine gv rfl hg498 rfl (r_move rfl) ?_
        obtain ⟨r508, h509, hx⟩ := bind_some' hx
        refine gc rfl hg498 rfl rfl (hM.callV fun X S oL hS hR hO => ct_impl_SignsSame _ X S r389.1 s392 r429.1 s432 hS (seeA hO (.tail _ (.tail _ (.tail _ (.tail _ (.head _)))))) (seeA hO (.head _)) oL h509) ?_
        rintro _ w510 ⟨rfl, hR511⟩
        have hM := hM.call hR511
        refine wv rfl (p_t rfl hg498 rfl) ?_
        obtain rfl := Option.some.inj hx
        exact mid_nil () ⟨rfl, trivial⟩ hM
      · replace hx := xif_f hg498 hx
        refine gs rfl (isB_no hg498) rfl ?_
        refine gs rfl (isB_no hg498) rfl ?_
        refine gs rfl (isB_no hg498) rfl ?_
        refine wv rfl (p_f rfl hg498 rfl) ?_
        obtain rfl := Option.some.inj hx
        exact mid_nil () ⟨rfl, trivial⟩ hM
    rintro _ w512 hM
    replace hx := hx505
    refine wv rfl (r_assign rfl) ?_
    refine wl_nil ?_
    refine sq_n ?_
    refine wc_ret ?_
    obtain rfl := Option.some.inj hx
    refine fin_ret [(.bool c497)] ⟨rfl, trivial⟩ ?_
    replace hM := hM.t0
    have hM := hM.fewer rsN
    exact ⟨(), rfl, hM.gives⟩

end Go.Proofs.Ythfkcpdechjmnaa
