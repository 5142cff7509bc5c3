/- Walks of functions of this program (printed by a program of ours, by the rules of the layer). No condition. -/
import Derived.Test.YtjbonmmmcnpjiaaGreatDoorH1
import Derived.Test.YtjbonmmmcnpjiaaGreatDoorNz
namespace Go.Proofs.YtjbonmmmcnpjiaaGreatDoor
open Go.RowKit

noncomputable def x_impl_OnDoc (k : Int) : Option Bool :=
  Option.bind (x_impl_within k 1 5) fun r3 => some r3
theorem ct_impl_OnDoc (w : World) (X S : Bs) (k : Int) (hS : SX X S w)  (oL : Sep [] X w) {r : Bool} (hx : x_impl_OnDoc k = some r) :
 Ret Tryz.prog 83 [(iv k)] w (KV X S w (bv r)) := by
 unfold x_impl_OnDoc at hx
 refine enter Tryz.func83 rfl Tryz.ntmps83 (by kernel_rfl) rfl ?_
 have hM := St.enter oL hS
 refine wc_sr <| was rfl rfl <| wl_sq <| wc_sr <| wmv rfl rfl <| bs hx fun r9 h10 hx => w_cv hM rfl rfl (fun X S oL hS hR hO => ct_impl_within _ X S k (1 : Int) (5 : Int) hS  oL h10) fun _ hM => was rfl rfl <| wl_sq <| wc_ret ?_
 obtain rfl := oi hx
 exact fin_u [(bv r9)] hM ⟨rfl, trivial⟩ rfl

noncomputable def x_impl_used (c : DCall) : Option DCall :=
  Option.bind (x_impl_OnDoc c.kind) fun r20 => bif r20 then (bif decide (c.kind = 1) then (some (⟨c.kind, c.doc, 0, 0, 0, [], c.text⟩ : DCall)) else (bif decide (c.kind = 2) then (some (⟨c.kind, c.doc, c.client, c.seq, c.n, c.o, []⟩ : DCall)) else (bif decide (c.kind = 3) then (bif decide (c.kind = 3) then (some (⟨c.kind, c.doc, 0, 0, c.n, [], []⟩ : DCall)) else (bif decide (c.kind = 6) then (some (⟨c.kind, c.doc, c.client, 0, c.n, [], []⟩ : DCall)) else (bif decide (c.kind = 7) then (some (⟨c.kind, c.doc, c.client, 0, 0, [], []⟩ : DCall)) else (some (⟨c.kind, c.doc, 0, 0, 0, [], []⟩ : DCall))))) else (bif decide (c.kind = 5) then (some (⟨c.kind, c.doc, 0, 0, c.n, [], []⟩ : DCall)) else (bif decide (c.kind = 6) then (some (⟨c.kind, c.doc, c.client, 0, c.n, [], []⟩ : DCall)) else (bif decide (c.kind = 7) then (some (⟨c.kind, c.doc, c.client, 0, 0, [], []⟩ : DCall)) else (some (⟨c.kind, c.doc, 0, 0, 0, [], []⟩ : DCall)))))))) else (bif decide (c.kind = 1) then (some (⟨c.kind, ByteArray.empty, 0, 0, 0, [], c.text⟩ : DCall)) else (bif decide (c.kind = 2) then (some (⟨c.kind, ByteArray.empty, c.client, c.seq, c.n, c.o, []⟩ : DCall)) else (bif decide (c.kind = 3) then (bif decide (c.kind = 3) then (some (⟨c.kind, ByteArray.empty, 0, 0, c.n, [], []⟩ : DCall)) else (bif decide (c.kind = 6) then (some (⟨c.kind, ByteArray.empty, c.client, 0, c.n, [], []⟩ : DCall)) else (bif decide (c.kind = 7) then (some (⟨c.kind, ByteArray.empty, c.client, 0, 0, [], []⟩ : DCall)) else (some (⟨c.kind, ByteArray.empty, 0, 0, 0, [], []⟩ : DCall))))) else (bif decide (c.kind = 5) then (some (⟨c.kind, ByteArray.empty, 0, 0, c.n, [], []⟩ : DCall)) else (bif decide (c.kind = 6) then (some (⟨c.kind, ByteArray.empty, c.client, 0, c.n, [], []⟩ : DCall)) else (bif decide (c.kind = 7) then (some (⟨c.kind, ByteArray.empty, c.client, 0, 0, [], []⟩ : DCall)) else (some (⟨c.kind, ByteArray.empty, 0, 0, 0, [], []⟩ : DCall))))))))
theorem ct_impl_used (w : World) (X S : Bs) (c : DCall) (s_c_5 : Sv) (s_c_6 : Sv) (hS : SX X S w) (a_c_5 : (cSl 3 fDPart c.o).rd S w s_c_5.v) (a_c_6 : (cSl 1 fI c.text).rd S w s_c_6.v) (oL : Sep [] X w) {r : DCall} (hx : x_impl_used c = some r) :
 Ret Tryz.prog 128 [(.agg #[(iv c.kind), (.string c.doc), (iv c.client), (iv c.seq), (iv c.n), s_c_5.v, s_c_6.v])] w (fun u w' => ∃ y : Sv × Sv, u = .agg #[(iv r.kind), (.string r.doc), (iv r.client), (iv r.seq), (iv r.n), y.1.v, y.2.v] ∧ Gives X S w [] [rV y.1.v (cSl 3 fDPart r.o), rV y.2.v (cSl 1 fI r.text)] w') := by
 unfold x_impl_used at hx
 refine enter Tryz.func128 rfl Tryz.ntmps128 (by kernel_rfl) rfl ?_
 have hM := ((St.enter oL hS).addV a_c_5).addV a_c_6
 refine wc_sr ?_
 refine w_ex rfl (x_box rfl hM ?_); intro b287 w286 hR288 hM
 refine w_ex rfl (x_alloc sz59 hM ?_); intro b291 w290 hR292 hM
 refine wl_sq <| wc_sr <| wv rfl (r_fld u59 rfl rfl sz3 rfl) <| wv rfl (r_ldB u3 rfl rfl hM m1 rfl) <| wv rfl (r_build (cells := #[(iv c.kind), (.string ByteArray.empty), (iv 0), (iv 0), (iv 0), (.slice none 0 0), (.slice none 0 0)]) rfl (by kernel_rfl)) ?_
 refine w_ex rfl (x_alloc sz59 hM ?_); intro b298 w297 hR299 hM
 refine w_exu (x_stB #[(iv c.kind), (.string ByteArray.empty), (iv 0), (iv 0), (iv 0), (.slice none 0 0), (.slice none 0 0)] sz59 rfl rfl rfl rfl rfl rfl hM ?_); intro w301 hM
 refine wl_sq <| wc_seq <| wc_sr <| wv rfl (r_fld u59 rfl rfl sz3 rfl) <| wv rfl (r_ldB u3 rfl rfl hM m2 rfl) <| bs hx fun _ h306 hx => w_cv hM rfl rfl (fun X S oL hS hR hO => ct_impl_OnDoc _ X S c.kind hS  oL h306) fun _ hM => wl_sq ?_
 refine wcx hx rfl (fun hx => ?_) (fun hx => ?_)
 refine wc_region <| wv rfl (r_fld u59 rfl rfl sz9 rfl) <| wv rfl (r_ldB u9 rfl rfl hM m2 rfl) <| wv rfl (r_fld u59 rfl rfl sz9 rfl) ?_
 refine w_exu (x_stB #[(iv c.kind), (.string c.doc), (iv 0), (iv 0), (iv 0), (.slice none 0 0), (.slice none 0 0)] sz9 rfl rfl rfl rfl rfl rfl hM ?_); intro w312 hM
 refine wl_sq <| wc_seq <| wc_sr <| wv rfl (r_fld u59 rfl rfl sz3 rfl) <| wv rfl (r_ldB u3 rfl rfl hM m2 rfl) <| wl_sq <| wc_block <| wc_sr <| wv rfl (r_eql rfl rfl) <| was rfl rfl <| wl_sq ?_
 refine wcx hx rfl (fun hx => ?_) (fun hx => ?_)
 refine wc_region <| wv rfl (r_fld u59 rfl rfl sz26 rfl) <| wv rfl (r_ldB u26 rfl rfl hM m2 rfl) <| wv rfl (r_fld u59 rfl rfl sz26 rfl) ?_
 refine w_exu (x_stB #[(iv c.kind), (.string c.doc), (iv 0), (iv 0), (iv 0), (.slice none 0 0), s_c_6.v] sz26 rfl rfl rfl rfl rfl rfl hM ?_); intro w322 hM
 refine wl_nil <| bk_n <| sq_n <| wc_sr <| wv rfl (r_ldBS u59 sz59 rfl (us := [(iv c.kind), (.string c.doc), (iv 0), (iv 0), (iv 0), (.slice none 0 0), s_c_6.v]) rfl hM m0 rfl) ?_
 replace hM := hM.p1
 refine w_exu (x_stB #[(iv c.kind), (.string c.doc), (iv 0), (iv 0), (iv 0), (.slice none 0 0), s_c_6.v] sz59 rfl rfl rfl rfl rfl rfl hM ?_); intro w325 hM
 refine wl_sq <| wc_ret ?_
 obtain rfl := oi hx
 have hM := hM.nilR0 (T := DPart) 3 fDPart
 refine fin_ret [(.agg #[(iv c.kind), (.string c.doc), (iv 0), (iv 0), (iv 0), nS.v, s_c_6.v])] ⟨rv_box u59 sz59 rfl rfl hM m0, trivial⟩ ?_
 replace hM := hM.t0
 exact ⟨(nS, s_c_6), rfl, (hM.fewer (rsC m0 (rsC m1 rsN))).gives⟩
 refine wc_sr <| wv rfl (r_eql rfl rfl) <| was rfl rfl <| wl_sq ?_
 refine wcx hx rfl (fun hx => ?_) (fun hx => ?_)
 refine wc_mid (fun (u : Unit) => [(2, (pt b291 0)), (3, (pt b298 0))]) (fun (u : Unit) w' => St ⟨w, X, S⟩ [oBox b291 #[(iv 0), (.string ByteArray.empty), (iv 0), (iv 0), (iv 0), (.slice none 0 0), (.slice none 0 0)] 59, oBox b298 #[(iv c.kind), (.string c.doc), (iv c.client), (iv c.seq), (iv c.n), s_c_5.v, (.slice none 0 0)] 59] [rV s_c_5.v (cSl 3 fDPart c.o)] w') ?_ ?_
 refine wc_drawM (fun w' => ∃ m rs, St ⟨w, X, S⟩ m rs w' ∧ oBox b287 #[(iv c.kind), (.string c.doc), (iv c.client), (iv c.seq), (iv c.n), s_c_5.v, s_c_6.v] 59 ∈ m) Tryz_mixed <| wm_run [(0, 0), (1, 0), (8, 0)] 13 (fun _ h' => ⟨_, _, hM.call h', m2⟩) rfl rfl (by kernel_rfl) (by kernel_rfl) rfl <| ov rfl (fun w' h' => r_fld u59 rfl rfl sz3 rfl) <| ov rfl (fun w' h' => r_ldB u3 rfl rfl (hM.call h') m2 rfl) <| ov rfl (fun w' h' => r_fld u59 rfl rfl sz3 rfl) <| o_nilM hM fun _ hM => wm_free 2 12 rfl rfl (by kernel_rfl) (by kernel_rfl) rfl (fun _ _ => r_fld u59 rfl rfl sz3 rfl) <| wm_free 3 11 rfl rfl (by kernel_rfl) (by kernel_rfl) rfl (fun _ ⟨_, _, hM, q0⟩ => r_ldB u3 rfl rfl hM q0 rfl) <| wm_free 4 10 rfl rfl (by kernel_rfl) (by kernel_rfl) rfl (fun _ _ => r_fld u59 rfl rfl sz3 rfl) <| wm_free 5 9 rfl rfl (by kernel_rfl) (by kernel_rfl) rfl (fun _ ⟨_, _, hM, q0⟩ => r_ldB u3 rfl rfl hM q0 rfl) <| wm_free 6 8 rfl rfl (by kernel_rfl) (by kernel_rfl) rfl (fun _ _ => r_fld u59 rfl rfl sz57 rfl) <| wm_free 7 7 rfl rfl (by kernel_rfl) (by kernel_rfl) rfl (fun _ ⟨_, _, hM, q0⟩ => r_ldB u57 rfl rfl hM q0 rfl) <| wm_run [(9, 2), (10, 0)] 5 (fun _ h' => ⟨_, _, hM.call h', m2⟩) rfl rfl (by kernel_rfl) (by kernel_rfl) rfl <| o_exu fun _ h372 => ?_
 have hM := hM.call h372
 refine x_stB #[(iv c.kind), (.string c.doc), (iv c.client), (iv 0), (iv 0), (.slice none 0 0), (.slice none 0 0)] sz3 rfl rfl rfl rfl rfl rfl hM ?_; intro w369 hM
 refine ov rfl (fun w' h' => r_fld u59 rfl rfl sz3 rfl) <| o_nilM hM fun _ hM => wm_run [(11, 2), (12, 0)] 3 (fun _ h' => ⟨_, _, hM.call h', m2⟩) rfl rfl (by kernel_rfl) (by kernel_rfl) rfl <| o_exu fun _ h379 => ?_
 have hM := hM.call h379
 refine x_stB #[(iv c.kind), (.string c.doc), (iv c.client), (iv c.seq), (iv 0), (.slice none 0 0), (.slice none 0 0)] sz3 rfl rfl rfl rfl rfl rfl hM ?_; intro w376 hM
 refine ov rfl (fun w' h' => r_fld u59 rfl rfl sz3 rfl) <| o_nilM hM fun _ hM => wm_run [(13, 2), (14, 0)] 1 (fun _ h' => ⟨_, _, hM.call h', m2⟩) rfl rfl (by kernel_rfl) (by kernel_rfl) rfl <| o_exu fun _ h386 => ?_
 have hM := hM.call h386
 refine x_stB #[(iv c.kind), (.string c.doc), (iv c.client), (iv c.seq), (iv c.n), (.slice none 0 0), (.slice none 0 0)] sz3 rfl rfl rfl rfl rfl rfl hM ?_; intro w383 hM
 refine ov rfl (fun w' h' => r_fld u59 rfl rfl sz57 rfl) <| o_nilM hM fun _ hM => wm_run [(15, 2)] 0 (fun _ h' => ⟨_, _, hM.call h', m2⟩) rfl rfl (by kernel_rfl) (by kernel_rfl) rfl <| o_exu fun _ h393 => ?_
 have hM := hM.call h393
 refine x_stB #[(iv c.kind), (.string c.doc), (iv c.client), (iv c.seq), (iv c.n), s_c_5.v, (.slice none 0 0)] sz57 rfl rfl rfl rfl rfl rfl hM ?_; intro w390 hM
 refine o_nilM hM fun _ hM => wm_end (fun _ h' => ⟨_, _, hM.call h', m2⟩) (by kernel_rfl) fun _ hw397 => ?_
 have hM := hM.call hw397
 replace hM := hM.p1
 replace hM := hM.t2
 have hM := hM.fewer (rsC m1 rsN)
 replace hM : St ⟨w, X, S⟩ [oBox b291 #[(iv 0), (.string ByteArray.empty), (iv 0), (iv 0), (iv 0), (.slice none 0 0), (.slice none 0 0)] 59, oBox b298 #[(iv c.kind), (.string c.doc), (iv c.client), (iv c.seq), (iv c.n), s_c_5.v, (.slice none 0 0)] 59] [rV s_c_5.v (cSl 3 fDPart c.o)] _ := hM
 exact mid_c () ⟨rfl, rfl, trivial⟩ hM
 rintro u w398 hM
 refine bk_n <| sq_n <| wc_sr <| wv rfl (r_ldBS u59 sz59 rfl (us := [(iv c.kind), (.string c.doc), (iv c.client), (iv c.seq), (iv c.n), s_c_5.v, (.slice none 0 0)]) rfl hM m1 rfl) ?_
 refine w_exu (x_stB #[(iv c.kind), (.string c.doc), (iv c.client), (iv c.seq), (iv c.n), s_c_5.v, (.slice none 0 0)] sz59 rfl rfl rfl rfl rfl rfl hM ?_); intro w400 hM
 refine wl_sq <| wc_ret ?_
 obtain rfl := oi hx
 have hM := hM.nilR0 (T := Int) 1 fI
 refine fin_ret [(.agg #[(iv c.kind), (.string c.doc), (iv c.client), (iv c.seq), (iv c.n), s_c_5.v, nS.v])] ⟨rv_box u59 sz59 rfl rfl hM m0, trivial⟩ ?_
 replace hM := hM.t0
 exact ⟨(s_c_5, nS), rfl, (hM.fewer (rsC m1 (rsC m0 rsN))).gives⟩
 refine wc_seq <| wc_sr <| wv rfl (r_eql rfl rfl) <| was rfl rfl <| wl_sq ?_
 refine wcx hx rfl (fun hx => ?_) (fun hx => ?_)
 refine wc_skip <| sq_n ?_
 refine wcx hx rfl (fun hx => ?_) (fun hx => ?_)
 refine wc_region <| wv rfl (r_fld u59 rfl rfl sz3 rfl) <| wv rfl (r_ldB u3 rfl rfl hM m2 rfl) <| wv rfl (r_fld u59 rfl rfl sz3 rfl) ?_
 refine w_exu (x_stB #[(iv c.kind), (.string c.doc), (iv 0), (iv 0), (iv c.n), (.slice none 0 0), (.slice none 0 0)] sz3 rfl rfl rfl rfl rfl rfl hM ?_); intro w409 hM
 refine wl_nil <| bk_n <| sq_n <| wc_sr <| wv rfl (r_ldBS u59 sz59 rfl (us := [(iv c.kind), (.string c.doc), (iv 0), (iv 0), (iv c.n), (.slice none 0 0), (.slice none 0 0)]) rfl hM m0 rfl) ?_
 replace hM := hM.p1
 refine w_exu (x_stB #[(iv c.kind), (.string c.doc), (iv 0), (iv 0), (iv c.n), (.slice none 0 0), (.slice none 0 0)] sz59 rfl rfl rfl rfl rfl rfl hM ?_); intro w412 hM
 refine wl_sq <| wc_ret ?_
 obtain rfl := oi hx
 have hM := hM.nilR0 (T := DPart) 3 fDPart
 have hM := hM.nilR0 (T := Int) 1 fI
 refine fin_ret [(.agg #[(iv c.kind), (.string c.doc), (iv 0), (iv 0), (iv c.n), nS.v, nS.v])] ⟨rv_box u59 sz59 rfl rfl hM m0, trivial⟩ ?_
 replace hM := hM.t0
 exact ⟨(nS, nS), rfl, (hM.fewer (rsC m1 (rsC m0 rsN))).gives⟩
 refine wc_sr <| wv rfl (r_eql rfl rfl) <| was rfl rfl <| wl_sq ?_
 refine wcx hx rfl (fun hx => ?_) (fun hx => ?_)
 refine wc_mid (fun (u : Unit) => [(2, (pt b291 0)), (3, (pt b298 0))]) (fun (u : Unit) w' => St ⟨w, X, S⟩ [oBox b291 #[(iv 0), (.string ByteArray.empty), (iv 0), (iv 0), (iv 0), (.slice none 0 0), (.slice none 0 0)] 59, oBox b298 #[(iv c.kind), (.string c.doc), (iv c.client), (iv 0), (iv c.n), (.slice none 0 0), (.slice none 0 0)] 59] [] w') ?_ ?_
 refine wc_drawM (fun w' => ∃ m rs, St ⟨w, X, S⟩ m rs w' ∧ oBox b287 #[(iv c.kind), (.string c.doc), (iv c.client), (iv c.seq), (iv c.n), s_c_5.v, s_c_6.v] 59 ∈ m) Tryz_mixed <| wm_run [(0, 0), (1, 0), (4, 0)] 5 (fun _ h' => ⟨_, _, hM.call h', m2⟩) rfl rfl (by kernel_rfl) (by kernel_rfl) rfl <| ov rfl (fun w' h' => r_fld u59 rfl rfl sz3 rfl) <| ov rfl (fun w' h' => r_ldB u3 rfl rfl (hM.call h') m2 rfl) <| ov rfl (fun w' h' => r_fld u59 rfl rfl sz3 rfl) <| o_nilM hM fun _ hM => wm_free 2 4 rfl rfl (by kernel_rfl) (by kernel_rfl) rfl (fun _ _ => r_fld u59 rfl rfl sz3 rfl) <| wm_free 3 3 rfl rfl (by kernel_rfl) (by kernel_rfl) rfl (fun _ ⟨_, _, hM, q0⟩ => r_ldB u3 rfl rfl hM q0 rfl) <| wm_run [(5, 2), (6, 0)] 1 (fun _ h' => ⟨_, _, hM.call h', m2⟩) rfl rfl (by kernel_rfl) (by kernel_rfl) rfl <| o_exu fun _ h441 => ?_
 have hM := hM.call h441
 refine x_stB #[(iv c.kind), (.string c.doc), (iv c.client), (iv 0), (iv 0), (.slice none 0 0), (.slice none 0 0)] sz3 rfl rfl rfl rfl rfl rfl hM ?_; intro w438 hM
 refine ov rfl (fun w' h' => r_fld u59 rfl rfl sz3 rfl) <| o_nilM hM fun _ hM => wm_run [(7, 2)] 0 (fun _ h' => ⟨_, _, hM.call h', m2⟩) rfl rfl (by kernel_rfl) (by kernel_rfl) rfl <| o_exu fun _ h448 => ?_
 have hM := hM.call h448
 refine x_stB #[(iv c.kind), (.string c.doc), (iv c.client), (iv 0), (iv c.n), (.slice none 0 0), (.slice none 0 0)] sz3 rfl rfl rfl rfl rfl rfl hM ?_; intro w445 hM
 refine o_nilM hM fun _ hM => wm_end (fun _ h' => ⟨_, _, hM.call h', m2⟩) (by kernel_rfl) fun _ hw452 => ?_
 have hM := hM.call hw452
 replace hM := hM.p1
 replace hM := hM.t2
 have hM := hM.fewer rsN
 replace hM : St ⟨w, X, S⟩ [oBox b291 #[(iv 0), (.string ByteArray.empty), (iv 0), (iv 0), (iv 0), (.slice none 0 0), (.slice none 0 0)] 59, oBox b298 #[(iv c.kind), (.string c.doc), (iv c.client), (iv 0), (iv c.n), (.slice none 0 0), (.slice none 0 0)] 59] [] _ := hM
 exact mid_c () ⟨rfl, rfl, trivial⟩ hM
 rintro u w453 hM
 refine bk_n <| sq_n <| wc_sr <| wv rfl (r_ldBS u59 sz59 rfl (us := [(iv c.kind), (.string c.doc), (iv c.client), (iv 0), (iv c.n), (.slice none 0 0), (.slice none 0 0)]) rfl hM m1 rfl) ?_
 refine w_exu (x_stB #[(iv c.kind), (.string c.doc), (iv c.client), (iv 0), (iv c.n), (.slice none 0 0), (.slice none 0 0)] sz59 rfl rfl rfl rfl rfl rfl hM ?_); intro w455 hM
 refine wl_sq <| wc_ret ?_
 obtain rfl := oi hx
 have hM := hM.nilR0 (T := DPart) 3 fDPart
 have hM := hM.nilR0 (T := Int) 1 fI
 refine fin_ret [(.agg #[(iv c.kind), (.string c.doc), (iv c.client), (iv 0), (iv c.n), nS.v, nS.v])] ⟨rv_box u59 sz59 rfl rfl hM m0, trivial⟩ ?_
 replace hM := hM.t0
 exact ⟨(nS, nS), rfl, (hM.fewer (rsC m1 (rsC m0 rsN))).gives⟩
 refine wc_sr <| wv rfl (r_eql rfl rfl) <| was rfl rfl <| wl_sq ?_
 refine wcx hx rfl (fun hx => ?_) (fun hx => ?_)
 refine wc_region <| wv rfl (r_fld u59 rfl rfl sz3 rfl) <| wv rfl (r_ldB u3 rfl rfl hM m2 rfl) <| wv rfl (r_fld u59 rfl rfl sz3 rfl) ?_
 refine w_exu (x_stB #[(iv c.kind), (.string c.doc), (iv c.client), (iv 0), (iv 0), (.slice none 0 0), (.slice none 0 0)] sz3 rfl rfl rfl rfl rfl rfl hM ?_); intro w463 hM
 refine wl_nil <| bk_n <| sq_n <| wc_sr <| wv rfl (r_ldBS u59 sz59 rfl (us := [(iv c.kind), (.string c.doc), (iv c.client), (iv 0), (iv 0), (.slice none 0 0), (.slice none 0 0)]) rfl hM m0 rfl) ?_
 replace hM := hM.p1
 refine w_exu (x_stB #[(iv c.kind), (.string c.doc), (iv c.client), (iv 0), (iv 0), (.slice none 0 0), (.slice none 0 0)] sz59 rfl rfl rfl rfl rfl rfl hM ?_); intro w466 hM
 refine wl_sq <| wc_ret ?_
 obtain rfl := oi hx
 have hM := hM.nilR0 (T := DPart) 3 fDPart
 have hM := hM.nilR0 (T := Int) 1 fI
 refine fin_ret [(.agg #[(iv c.kind), (.string c.doc), (iv c.client), (iv 0), (iv 0), nS.v, nS.v])] ⟨rv_box u59 sz59 rfl rfl hM m0, trivial⟩ ?_
 replace hM := hM.t0
 exact ⟨(nS, nS), rfl, (hM.fewer (rsC m1 (rsC m0 rsN))).gives⟩
 refine wc_skip <| bk_n <| sq_n <| wc_sr <| wv rfl (r_ldBS u59 sz59 rfl (us := [(iv c.kind), (.string c.doc), (iv 0), (iv 0), (iv 0), (.slice none 0 0), (.slice none 0 0)]) rfl hM m0 rfl) ?_
 replace hM := hM.p1
 refine w_exu (x_stB #[(iv c.kind), (.string c.doc), (iv 0), (iv 0), (iv 0), (.slice none 0 0), (.slice none 0 0)] sz59 rfl rfl rfl rfl rfl rfl hM ?_); intro w469 hM
 refine wl_sq <| wc_ret ?_
 obtain rfl := oi hx
 have hM := hM.nilR0 (T := DPart) 3 fDPart
 have hM := hM.nilR0 (T := Int) 1 fI
 refine fin_ret [(.agg #[(iv c.kind), (.string c.doc), (iv 0), (iv 0), (iv 0), nS.v, nS.v])] ⟨rv_box u59 sz59 rfl rfl hM m0, trivial⟩ ?_
 replace hM := hM.t0
 exact ⟨(nS, nS), rfl, (hM.fewer (rsC m1 (rsC m0 rsN))).gives⟩
 refine wc_region <| wv rfl (r_eql rfl rfl) <| was rfl rfl <| wl_sq ?_
 refine wcx hx rfl (fun hx => ?_) (fun hx => ?_)
 refine wc_region <| wv rfl (r_fld u59 rfl rfl sz3 rfl) <| wv rfl (r_ldB u3 rfl rfl hM m2 rfl) <| wv rfl (r_fld u59 rfl rfl sz3 rfl) ?_
 refine w_exu (x_stB #[(iv c.kind), (.string c.doc), (iv 0), (iv 0), (iv c.n), (.slice none 0 0), (.slice none 0 0)] sz3 rfl rfl rfl rfl rfl rfl hM ?_); intro w477 hM
 refine wl_nil <| bk_n <| sq_n <| wc_sr <| wv rfl (r_ldBS u59 sz59 rfl (us := [(iv c.kind), (.string c.doc), (iv 0), (iv 0), (iv c.n), (.slice none 0 0), (.slice none 0 0)]) rfl hM m0 rfl) ?_
 replace hM := hM.p1
 refine w_exu (x_stB #[(iv c.kind), (.string c.doc), (iv 0), (iv 0), (iv c.n), (.slice none 0 0), (.slice none 0 0)] sz59 rfl rfl rfl rfl rfl rfl hM ?_); intro w480 hM
 refine wl_sq <| wc_ret ?_
 obtain rfl := oi hx
 have hM := hM.nilR0 (T := DPart) 3 fDPart
 have hM := hM.nilR0 (T := Int) 1 fI
 refine fin_ret [(.agg #[(iv c.kind), (.string c.doc), (iv 0), (iv 0), (iv c.n), nS.v, nS.v])] ⟨rv_box u59 sz59 rfl rfl hM m0, trivial⟩ ?_
 replace hM := hM.t0
 exact ⟨(nS, nS), rfl, (hM.fewer (rsC m1 (rsC m0 rsN))).gives⟩
 refine wc_sr <| wv rfl (r_eql rfl rfl) <| was rfl rfl <| wl_sq ?_
 refine wcx hx rfl (fun hx => ?_) (fun hx => ?_)
 refine wc_mid (fun (u : Unit) => [(2, (pt b291 0)), (3, (pt b298 0))]) (fun (u : Unit) w' => St ⟨w, X, S⟩ [oBox b291 #[(iv 0), (.string ByteArray.empty), (iv 0), (iv 0), (iv 0), (.slice none 0 0), (.slice none 0 0)] 59, oBox b298 #[(iv c.kind), (.string c.doc), (iv c.client), (iv 0), (iv c.n), (.slice none 0 0), (.slice none 0 0)] 59] [] w') ?_ ?_
 refine wc_drawM (fun w' => ∃ m rs, St ⟨w, X, S⟩ m rs w' ∧ oBox b287 #[(iv c.kind), (.string c.doc), (iv c.client), (iv c.seq), (iv c.n), s_c_5.v, s_c_6.v] 59 ∈ m) Tryz_mixed <| wm_run [(0, 0), (1, 0), (4, 0)] 5 (fun _ h' => ⟨_, _, hM.call h', m2⟩) rfl rfl (by kernel_rfl) (by kernel_rfl) rfl <| ov rfl (fun w' h' => r_fld u59 rfl rfl sz3 rfl) <| ov rfl (fun w' h' => r_ldB u3 rfl rfl (hM.call h') m2 rfl) <| ov rfl (fun w' h' => r_fld u59 rfl rfl sz3 rfl) <| o_nilM hM fun _ hM => wm_free 2 4 rfl rfl (by kernel_rfl) (by kernel_rfl) rfl (fun _ _ => r_fld u59 rfl rfl sz3 rfl) <| wm_free 3 3 rfl rfl (by kernel_rfl) (by kernel_rfl) rfl (fun _ ⟨_, _, hM, q0⟩ => r_ldB u3 rfl rfl hM q0 rfl) <| wm_run [(5, 2), (6, 0)] 1 (fun _ h' => ⟨_, _, hM.call h', m2⟩) rfl rfl (by kernel_rfl) (by kernel_rfl) rfl <| o_exu fun _ h509 => ?_
 have hM := hM.call h509
 refine x_stB #[(iv c.kind), (.string c.doc), (iv c.client), (iv 0), (iv 0), (.slice none 0 0), (.slice none 0 0)] sz3 rfl rfl rfl rfl rfl rfl hM ?_; intro w506 hM
 refine ov rfl (fun w' h' => r_fld u59 rfl rfl sz3 rfl) <| o_nilM hM fun _ hM => wm_run [(7, 2)] 0 (fun _ h' => ⟨_, _, hM.call h', m2⟩) rfl rfl (by kernel_rfl) (by kernel_rfl) rfl <| o_exu fun _ h516 => ?_
 have hM := hM.call h516
 refine x_stB #[(iv c.kind), (.string c.doc), (iv c.client), (iv 0), (iv c.n), (.slice none 0 0), (.slice none 0 0)] sz3 rfl rfl rfl rfl rfl rfl hM ?_; intro w513 hM
 refine o_nilM hM fun _ hM => wm_end (fun _ h' => ⟨_, _, hM.call h', m2⟩) (by kernel_rfl) fun _ hw520 => ?_
 have hM := hM.call hw520
 replace hM := hM.p1
 replace hM := hM.t2
 have hM := hM.fewer rsN
 replace hM : St ⟨w, X, S⟩ [oBox b291 #[(iv 0), (.string ByteArray.empty), (iv 0), (iv 0), (iv 0), (.slice none 0 0), (.slice none 0 0)] 59, oBox b298 #[(iv c.kind), (.string c.doc), (iv c.client), (iv 0), (iv c.n), (.slice none 0 0), (.slice none 0 0)] 59] [] _ := hM
 exact mid_c () ⟨rfl, rfl, trivial⟩ hM
 rintro u w521 hM
 refine bk_n <| sq_n <| wc_sr <| wv rfl (r_ldBS u59 sz59 rfl (us := [(iv c.kind), (.string c.doc), (iv c.client), (iv 0), (iv c.n), (.slice none 0 0), (.slice none 0 0)]) rfl hM m1 rfl) ?_
 refine w_exu (x_stB #[(iv c.kind), (.string c.doc), (iv c.client), (iv 0), (iv c.n), (.slice none 0 0), (.slice none 0 0)] sz59 rfl rfl rfl rfl rfl rfl hM ?_); intro w523 hM
 refine wl_sq <| wc_ret ?_
 obtain rfl := oi hx
 have hM := hM.nilR0 (T := DPart) 3 fDPart
 have hM := hM.nilR0 (T := Int) 1 fI
 refine fin_ret [(.agg #[(iv c.kind), (.string c.doc), (iv c.client), (iv 0), (iv c.n), nS.v, nS.v])] ⟨rv_box u59 sz59 rfl rfl hM m0, trivial⟩ ?_
 replace hM := hM.t0
 exact ⟨(nS, nS), rfl, (hM.fewer (rsC m1 (rsC m0 rsN))).gives⟩
 refine wc_sr <| wv rfl (r_eql rfl rfl) <| was rfl rfl <| wl_sq ?_
 refine wcx hx rfl (fun hx => ?_) (fun hx => ?_)
 refine wc_region <| wv rfl (r_fld u59 rfl rfl sz3 rfl) <| wv rfl (r_ldB u3 rfl rfl hM m2 rfl) <| wv rfl (r_fld u59 rfl rfl sz3 rfl) ?_
 refine w_exu (x_stB #[(iv c.kind), (.string c.doc), (iv c.client), (iv 0), (iv 0), (.slice none 0 0), (.slice none 0 0)] sz3 rfl rfl rfl rfl rfl rfl hM ?_); intro w531 hM
 refine wl_nil <| bk_n <| sq_n <| wc_sr <| wv rfl (r_ldBS u59 sz59 rfl (us := [(iv c.kind), (.string c.doc), (iv c.client), (iv 0), (iv 0), (.slice none 0 0), (.slice none 0 0)]) rfl hM m0 rfl) ?_
 replace hM := hM.p1
 refine w_exu (x_stB #[(iv c.kind), (.string c.doc), (iv c.client), (iv 0), (iv 0), (.slice none 0 0), (.slice none 0 0)] sz59 rfl rfl rfl rfl rfl rfl hM ?_); intro w534 hM
 refine wl_sq <| wc_ret ?_
 obtain rfl := oi hx
 have hM := hM.nilR0 (T := DPart) 3 fDPart
 have hM := hM.nilR0 (T := Int) 1 fI
 refine fin_ret [(.agg #[(iv c.kind), (.string c.doc), (iv c.client), (iv 0), (iv 0), nS.v, nS.v])] ⟨rv_box u59 sz59 rfl rfl hM m0, trivial⟩ ?_
 replace hM := hM.t0
 exact ⟨(nS, nS), rfl, (hM.fewer (rsC m1 (rsC m0 rsN))).gives⟩
 refine wc_skip <| bk_n <| sq_n <| wc_sr <| wv rfl (r_ldBS u59 sz59 rfl (us := [(iv c.kind), (.string c.doc), (iv 0), (iv 0), (iv 0), (.slice none 0 0), (.slice none 0 0)]) rfl hM m0 rfl) ?_
 replace hM := hM.p1
 refine w_exu (x_stB #[(iv c.kind), (.string c.doc), (iv 0), (iv 0), (iv 0), (.slice none 0 0), (.slice none 0 0)] sz59 rfl rfl rfl rfl rfl rfl hM ?_); intro w537 hM
 refine wl_sq <| wc_ret ?_
 obtain rfl := oi hx
 have hM := hM.nilR0 (T := DPart) 3 fDPart
 have hM := hM.nilR0 (T := Int) 1 fI
 refine fin_ret [(.agg #[(iv c.kind), (.string c.doc), (iv 0), (iv 0), (iv 0), nS.v, nS.v])] ⟨rv_box u59 sz59 rfl rfl hM m0, trivial⟩ ?_
 replace hM := hM.t0
 exact ⟨(nS, nS), rfl, (hM.fewer (rsC m1 (rsC m0 rsN))).gives⟩
 refine wc_skip <| sq_n <| wc_seq <| wc_sr <| wv rfl (r_fld u59 rfl rfl sz3 rfl) <| wv rfl (r_ldB u3 rfl rfl hM m2 rfl) <| wl_sq <| wc_block <| wc_sr <| wv rfl (r_eql rfl rfl) <| was rfl rfl <| wl_sq ?_
 refine wcx hx rfl (fun hx => ?_) (fun hx => ?_)
 refine wc_region <| wv rfl (r_fld u59 rfl rfl sz26 rfl) <| wv rfl (r_ldB u26 rfl rfl hM m2 rfl) <| wv rfl (r_fld u59 rfl rfl sz26 rfl) ?_
 refine w_exu (x_stB #[(iv c.kind), (.string ByteArray.empty), (iv 0), (iv 0), (iv 0), (.slice none 0 0), s_c_6.v] sz26 rfl rfl rfl rfl rfl rfl hM ?_); intro w547 hM
 refine wl_nil <| bk_n <| sq_n <| wc_sr <| wv rfl (r_ldBS u59 sz59 rfl (us := [(iv c.kind), (.string ByteArray.empty), (iv 0), (iv 0), (iv 0), (.slice none 0 0), s_c_6.v]) rfl hM m0 rfl) ?_
 replace hM := hM.p1
 refine w_exu (x_stB #[(iv c.kind), (.string ByteArray.empty), (iv 0), (iv 0), (iv 0), (.slice none 0 0), s_c_6.v] sz59 rfl rfl rfl rfl rfl rfl hM ?_); intro w550 hM
 refine wl_sq <| wc_ret ?_
 obtain rfl := oi hx
 have hM := hM.nilR0 (T := DPart) 3 fDPart
 refine fin_ret [(.agg #[(iv c.kind), (.string ByteArray.empty), (iv 0), (iv 0), (iv 0), nS.v, s_c_6.v])] ⟨rv_box u59 sz59 rfl rfl hM m0, trivial⟩ ?_
 replace hM := hM.t0
 exact ⟨(nS, s_c_6), rfl, (hM.fewer (rsC m0 (rsC m1 rsN))).gives⟩
 refine wc_sr <| wv rfl (r_eql rfl rfl) <| was rfl rfl <| wl_sq ?_
 refine wcx hx rfl (fun hx => ?_) (fun hx => ?_)
 refine wc_mid (fun (u : Unit) => [(2, (pt b291 0)), (3, (pt b298 0))]) (fun (u : Unit) w' => St ⟨w, X, S⟩ [oBox b291 #[(iv 0), (.string ByteArray.empty), (iv 0), (iv 0), (iv 0), (.slice none 0 0), (.slice none 0 0)] 59, oBox b298 #[(iv c.kind), (.string ByteArray.empty), (iv c.client), (iv c.seq), (iv c.n), s_c_5.v, (.slice none 0 0)] 59] [rV s_c_5.v (cSl 3 fDPart c.o)] w') ?_ ?_
 refine wc_drawM (fun w' => ∃ m rs, St ⟨w, X, S⟩ m rs w' ∧ oBox b287 #[(iv c.kind), (.string c.doc), (iv c.client), (iv c.seq), (iv c.n), s_c_5.v, s_c_6.v] 59 ∈ m) Tryz_mixed <| wm_run [(0, 0), (1, 0), (8, 0)] 13 (fun _ h' => ⟨_, _, hM.call h', m2⟩) rfl rfl (by kernel_rfl) (by kernel_rfl) rfl <| ov rfl (fun w' h' => r_fld u59 rfl rfl sz3 rfl) <| ov rfl (fun w' h' => r_ldB u3 rfl rfl (hM.call h') m2 rfl) <| ov rfl (fun w' h' => r_fld u59 rfl rfl sz3 rfl) <| o_nilM hM fun _ hM => wm_free 2 12 rfl rfl (by kernel_rfl) (by kernel_rfl) rfl (fun _ _ => r_fld u59 rfl rfl sz3 rfl) <| wm_free 3 11 rfl rfl (by kernel_rfl) (by kernel_rfl) rfl (fun _ ⟨_, _, hM, q0⟩ => r_ldB u3 rfl rfl hM q0 rfl) <| wm_free 4 10 rfl rfl (by kernel_rfl) (by kernel_rfl) rfl (fun _ _ => r_fld u59 rfl rfl sz3 rfl) <| wm_free 5 9 rfl rfl (by kernel_rfl) (by kernel_rfl) rfl (fun _ ⟨_, _, hM, q0⟩ => r_ldB u3 rfl rfl hM q0 rfl) <| wm_free 6 8 rfl rfl (by kernel_rfl) (by kernel_rfl) rfl (fun _ _ => r_fld u59 rfl rfl sz57 rfl) <| wm_free 7 7 rfl rfl (by kernel_rfl) (by kernel_rfl) rfl (fun _ ⟨_, _, hM, q0⟩ => r_ldB u57 rfl rfl hM q0 rfl) <| wm_run [(9, 2), (10, 0)] 5 (fun _ h' => ⟨_, _, hM.call h', m2⟩) rfl rfl (by kernel_rfl) (by kernel_rfl) rfl <| o_exu fun _ h597 => ?_
 have hM := hM.call h597
 refine x_stB #[(iv c.kind), (.string ByteArray.empty), (iv c.client), (iv 0), (iv 0), (.slice none 0 0), (.slice none 0 0)] sz3 rfl rfl rfl rfl rfl rfl hM ?_; intro w594 hM
 refine ov rfl (fun w' h' => r_fld u59 rfl rfl sz3 rfl) <| o_nilM hM fun _ hM => wm_run [(11, 2), (12, 0)] 3 (fun _ h' => ⟨_, _, hM.call h', m2⟩) rfl rfl (by kernel_rfl) (by kernel_rfl) rfl <| o_exu fun _ h604 => ?_
 have hM := hM.call h604
 refine x_stB #[(iv c.kind), (.string ByteArray.empty), (iv c.client), (iv c.seq), (iv 0), (.slice none 0 0), (.slice none 0 0)] sz3 rfl rfl rfl rfl rfl rfl hM ?_; intro w601 hM
 refine ov rfl (fun w' h' => r_fld u59 rfl rfl sz3 rfl) <| o_nilM hM fun _ hM => wm_run [(13, 2), (14, 0)] 1 (fun _ h' => ⟨_, _, hM.call h', m2⟩) rfl rfl (by kernel_rfl) (by kernel_rfl) rfl <| o_exu fun _ h611 => ?_
 have hM := hM.call h611
 refine x_stB #[(iv c.kind), (.string ByteArray.empty), (iv c.client), (iv c.seq), (iv c.n), (.slice none 0 0), (.slice none 0 0)] sz3 rfl rfl rfl rfl rfl rfl hM ?_; intro w608 hM
 refine ov rfl (fun w' h' => r_fld u59 rfl rfl sz57 rfl) <| o_nilM hM fun _ hM => wm_run [(15, 2)] 0 (fun _ h' => ⟨_, _, hM.call h', m2⟩) rfl rfl (by kernel_rfl) (by kernel_rfl) rfl <| o_exu fun _ h618 => ?_
 have hM := hM.call h618
 refine x_stB #[(iv c.kind), (.string ByteArray.empty), (iv c.client), (iv c.seq), (iv c.n), s_c_5.v, (.slice none 0 0)] sz57 rfl rfl rfl rfl rfl rfl hM ?_; intro w615 hM
 refine o_nilM hM fun _ hM => wm_end (fun _ h' => ⟨_, _, hM.call h', m2⟩) (by kernel_rfl) fun _ hw622 => ?_
 have hM := hM.call hw622
 replace hM := hM.p1
 replace hM := hM.t2
 have hM := hM.fewer (rsC m1 rsN)
 replace hM : St ⟨w, X, S⟩ [oBox b291 #[(iv 0), (.string ByteArray.empty), (iv 0), (iv 0), (iv 0), (.slice none 0 0), (.slice none 0 0)] 59, oBox b298 #[(iv c.kind), (.string ByteArray.empty), (iv c.client), (iv c.seq), (iv c.n), s_c_5.v, (.slice none 0 0)] 59] [rV s_c_5.v (cSl 3 fDPart c.o)] _ := hM
 exact mid_c () ⟨rfl, rfl, trivial⟩ hM
 rintro u w623 hM
 refine bk_n <| sq_n <| wc_sr <| wv rfl (r_ldBS u59 sz59 rfl (us := [(iv c.kind), (.string ByteArray.empty), (iv c.client), (iv c.seq), (iv c.n), s_c_5.v, (.slice none 0 0)]) rfl hM m1 rfl) ?_
 refine w_exu (x_stB #[(iv c.kind), (.string ByteArray.empty), (iv c.client), (iv c.seq), (iv c.n), s_c_5.v, (.slice none 0 0)] sz59 rfl rfl rfl rfl rfl rfl hM ?_); intro w625 hM
 refine wl_sq <| wc_ret ?_
 obtain rfl := oi hx
 have hM := hM.nilR0 (T := Int) 1 fI
 refine fin_ret [(.agg #[(iv c.kind), (.string ByteArray.empty), (iv c.client), (iv c.seq), (iv c.n), s_c_5.v, nS.v])] ⟨rv_box u59 sz59 rfl rfl hM m0, trivial⟩ ?_
 replace hM := hM.t0
 exact ⟨(s_c_5, nS), rfl, (hM.fewer (rsC m1 (rsC m0 rsN))).gives⟩
 refine wc_seq <| wc_sr <| wv rfl (r_eql rfl rfl) <| was rfl rfl <| wl_sq ?_
 refine wcx hx rfl (fun hx => ?_) (fun hx => ?_)
 refine wc_skip <| sq_n ?_
 refine wcx hx rfl (fun hx => ?_) (fun hx => ?_)
 refine wc_region <| wv rfl (r_fld u59 rfl rfl sz3 rfl) <| wv rfl (r_ldB u3 rfl rfl hM m2 rfl) <| wv rfl (r_fld u59 rfl rfl sz3 rfl) ?_
 refine w_exu (x_stB #[(iv c.kind), (.string ByteArray.empty), (iv 0), (iv 0), (iv c.n), (.slice none 0 0), (.slice none 0 0)] sz3 rfl rfl rfl rfl rfl rfl hM ?_); intro w634 hM
 refine wl_nil <| bk_n <| sq_n <| wc_sr <| wv rfl (r_ldBS u59 sz59 rfl (us := [(iv c.kind), (.string ByteArray.empty), (iv 0), (iv 0), (iv c.n), (.slice none 0 0), (.slice none 0 0)]) rfl hM m0 rfl) ?_
 replace hM := hM.p1
 refine w_exu (x_stB #[(iv c.kind), (.string ByteArray.empty), (iv 0), (iv 0), (iv c.n), (.slice none 0 0), (.slice none 0 0)] sz59 rfl rfl rfl rfl rfl rfl hM ?_); intro w637 hM
 refine wl_sq <| wc_ret ?_
 obtain rfl := oi hx
 have hM := hM.nilR0 (T := DPart) 3 fDPart
 have hM := hM.nilR0 (T := Int) 1 fI
 refine fin_ret [(.agg #[(iv c.kind), (.string ByteArray.empty), (iv 0), (iv 0), (iv c.n), nS.v, nS.v])] ⟨rv_box u59 sz59 rfl rfl hM m0, trivial⟩ ?_
 replace hM := hM.t0
 exact ⟨(nS, nS), rfl, (hM.fewer (rsC m1 (rsC m0 rsN))).gives⟩
 refine wc_sr <| wv rfl (r_eql rfl rfl) <| was rfl rfl <| wl_sq ?_
 refine wcx hx rfl (fun hx => ?_) (fun hx => ?_)
 refine wc_mid (fun (u : Unit) => [(2, (pt b291 0)), (3, (pt b298 0))]) (fun (u : Unit) w' => St ⟨w, X, S⟩ [oBox b291 #[(iv 0), (.string ByteArray.empty), (iv 0), (iv 0), (iv 0), (.slice none 0 0), (.slice none 0 0)] 59, oBox b298 #[(iv c.kind), (.string ByteArray.empty), (iv c.client), (iv 0), (iv c.n), (.slice none 0 0), (.slice none 0 0)] 59] [] w') ?_ ?_
 refine wc_drawM (fun w' => ∃ m rs, St ⟨w, X, S⟩ m rs w' ∧ oBox b287 #[(iv c.kind), (.string c.doc), (iv c.client), (iv c.seq), (iv c.n), s_c_5.v, s_c_6.v] 59 ∈ m) Tryz_mixed <| wm_run [(0, 0), (1, 0), (4, 0)] 5 (fun _ h' => ⟨_, _, hM.call h', m2⟩) rfl rfl (by kernel_rfl) (by kernel_rfl) rfl <| ov rfl (fun w' h' => r_fld u59 rfl rfl sz3 rfl) <| ov rfl (fun w' h' => r_ldB u3 rfl rfl (hM.call h') m2 rfl) <| ov rfl (fun w' h' => r_fld u59 rfl rfl sz3 rfl) <| o_nilM hM fun _ hM => wm_free 2 4 rfl rfl (by kernel_rfl) (by kernel_rfl) rfl (fun _ _ => r_fld u59 rfl rfl sz3 rfl) <| wm_free 3 3 rfl rfl (by kernel_rfl) (by kernel_rfl) rfl (fun _ ⟨_, _, hM, q0⟩ => r_ldB u3 rfl rfl hM q0 rfl) <| wm_run [(5, 2), (6, 0)] 1 (fun _ h' => ⟨_, _, hM.call h', m2⟩) rfl rfl (by kernel_rfl) (by kernel_rfl) rfl <| o_exu fun _ h666 => ?_
 have hM := hM.call h666
 refine x_stB #[(iv c.kind), (.string ByteArray.empty), (iv c.client), (iv 0), (iv 0), (.slice none 0 0), (.slice none 0 0)] sz3 rfl rfl rfl rfl rfl rfl hM ?_; intro w663 hM
 refine ov rfl (fun w' h' => r_fld u59 rfl rfl sz3 rfl) <| o_nilM hM fun _ hM => wm_run [(7, 2)] 0 (fun _ h' => ⟨_, _, hM.call h', m2⟩) rfl rfl (by kernel_rfl) (by kernel_rfl) rfl <| o_exu fun _ h673 => ?_
 have hM := hM.call h673
 refine x_stB #[(iv c.kind), (.string ByteArray.empty), (iv c.client), (iv 0), (iv c.n), (.slice none 0 0), (.slice none 0 0)] sz3 rfl rfl rfl rfl rfl rfl hM ?_; intro w670 hM
 refine o_nilM hM fun _ hM => wm_end (fun _ h' => ⟨_, _, hM.call h', m2⟩) (by kernel_rfl) fun _ hw677 => ?_
 have hM := hM.call hw677
 replace hM := hM.p1
 replace hM := hM.t2
 have hM := hM.fewer rsN
 replace hM : St ⟨w, X, S⟩ [oBox b291 #[(iv 0), (.string ByteArray.empty), (iv 0), (iv 0), (iv 0), (.slice none 0 0), (.slice none 0 0)] 59, oBox b298 #[(iv c.kind), (.string ByteArray.empty), (iv c.client), (iv 0), (iv c.n), (.slice none 0 0), (.slice none 0 0)] 59] [] _ := hM
 exact mid_c () ⟨rfl, rfl, trivial⟩ hM
 rintro u w678 hM
 refine bk_n <| sq_n <| wc_sr <| wv rfl (r_ldBS u59 sz59 rfl (us := [(iv c.kind), (.string ByteArray.empty), (iv c.client), (iv 0), (iv c.n), (.slice none 0 0), (.slice none 0 0)]) rfl hM m1 rfl) ?_
 refine w_exu (x_stB #[(iv c.kind), (.string ByteArray.empty), (iv c.client), (iv 0), (iv c.n), (.slice none 0 0), (.slice none 0 0)] sz59 rfl rfl rfl rfl rfl rfl hM ?_); intro w680 hM
 refine wl_sq <| wc_ret ?_
 obtain rfl := oi hx
 have hM := hM.nilR0 (T := DPart) 3 fDPart
 have hM := hM.nilR0 (T := Int) 1 fI
 refine fin_ret [(.agg #[(iv c.kind), (.string ByteArray.empty), (iv c.client), (iv 0), (iv c.n), nS.v, nS.v])] ⟨rv_box u59 sz59 rfl rfl hM m0, trivial⟩ ?_
 replace hM := hM.t0
 exact ⟨(nS, nS), rfl, (hM.fewer (rsC m1 (rsC m0 rsN))).gives⟩
 refine wc_sr <| wv rfl (r_eql rfl rfl) <| was rfl rfl <| wl_sq ?_
 refine wcx hx rfl (fun hx => ?_) (fun hx => ?_)
 refine wc_region <| wv rfl (r_fld u59 rfl rfl sz3 rfl) <| wv rfl (r_ldB u3 rfl rfl hM m2 rfl) <| wv rfl (r_fld u59 rfl rfl sz3 rfl) ?_
 refine w_exu (x_stB #[(iv c.kind), (.string ByteArray.empty), (iv c.client), (iv 0), (iv 0), (.slice none 0 0), (.slice none 0 0)] sz3 rfl rfl rfl rfl rfl rfl hM ?_); intro w688 hM
 refine wl_nil <| bk_n <| sq_n <| wc_sr <| wv rfl (r_ldBS u59 sz59 rfl (us := [(iv c.kind), (.string ByteArray.empty), (iv c.client), (iv 0), (iv 0), (.slice none 0 0), (.slice none 0 0)]) rfl hM m0 rfl) ?_
 replace hM := hM.p1
 refine w_exu (x_stB #[(iv c.kind), (.string ByteArray.empty), (iv c.client), (iv 0), (iv 0), (.slice none 0 0), (.slice none 0 0)] sz59 rfl rfl rfl rfl rfl rfl hM ?_); intro w691 hM
 refine wl_sq <| wc_ret ?_
 obtain rfl := oi hx
 have hM := hM.nilR0 (T := DPart) 3 fDPart
 have hM := hM.nilR0 (T := Int) 1 fI
 refine fin_ret [(.agg #[(iv c.kind), (.string ByteArray.empty), (iv c.client), (iv 0), (iv 0), nS.v, nS.v])] ⟨rv_box u59 sz59 rfl rfl hM m0, trivial⟩ ?_
 replace hM := hM.t0
 exact ⟨(nS, nS), rfl, (hM.fewer (rsC m1 (rsC m0 rsN))).gives⟩
 refine wc_skip <| bk_n <| sq_n <| wc_sr <| wv rfl (r_ldBS u59 sz59 rfl (us := [(iv c.kind), (.string ByteArray.empty), (iv 0), (iv 0), (iv 0), (.slice none 0 0), (.slice none 0 0)]) rfl hM m0 rfl) ?_
 replace hM := hM.p1
 refine w_exu (x_stB #[(iv c.kind), (.string ByteArray.empty), (iv 0), (iv 0), (iv 0), (.slice none 0 0), (.slice none 0 0)] sz59 rfl rfl rfl rfl rfl rfl hM ?_); intro w694 hM
 refine wl_sq <| wc_ret ?_
 obtain rfl := oi hx
 have hM := hM.nilR0 (T := DPart) 3 fDPart
 have hM := hM.nilR0 (T := Int) 1 fI
 refine fin_ret [(.agg #[(iv c.kind), (.string ByteArray.empty), (iv 0), (iv 0), (iv 0), nS.v, nS.v])] ⟨rv_box u59 sz59 rfl rfl hM m0, trivial⟩ ?_
 replace hM := hM.t0
 exact ⟨(nS, nS), rfl, (hM.fewer (rsC m1 (rsC m0 rsN))).gives⟩
 refine wc_region <| wv rfl (r_eql rfl rfl) <| was rfl rfl <| wl_sq ?_
 refine wcx hx rfl (fun hx => ?_) (fun hx => ?_)
 refine wc_region <| wv rfl (r_fld u59 rfl rfl sz3 rfl) <| wv rfl (r_ldB u3 rfl rfl hM m2 rfl) <| wv rfl (r_fld u59 rfl rfl sz3 rfl) ?_
 refine w_exu (x_stB #[(iv c.kind), (.string ByteArray.empty), (iv 0), (iv 0), (iv c.n), (.slice none 0 0), (.slice none 0 0)] sz3 rfl rfl rfl rfl rfl rfl hM ?_); intro w702 hM
 refine wl_nil <| bk_n <| sq_n <| wc_sr <| wv rfl (r_ldBS u59 sz59 rfl (us := [(iv c.kind), (.string ByteArray.empty), (iv 0), (iv 0), (iv c.n), (.slice none 0 0), (.slice none 0 0)]) rfl hM m0 rfl) ?_
 replace hM := hM.p1
 refine w_exu (x_stB #[(iv c.kind), (.string ByteArray.empty), (iv 0), (iv 0), (iv c.n), (.slice none 0 0), (.slice none 0 0)] sz59 rfl rfl rfl rfl rfl rfl hM ?_); intro w705 hM
 refine wl_sq <| wc_ret ?_
 obtain rfl := oi hx
 have hM := hM.nilR0 (T := DPart) 3 fDPart
 have hM := hM.nilR0 (T := Int) 1 fI
 refine fin_ret [(.agg #[(iv c.kind), (.string ByteArray.empty), (iv 0), (iv 0), (iv c.n), nS.v, nS.v])] ⟨rv_box u59 sz59 rfl rfl hM m0, trivial⟩ ?_
 replace hM := hM.t0
 exact ⟨(nS, nS), rfl, (hM.fewer (rsC m1 (rsC m0 rsN))).gives⟩
 refine wc_sr <| wv rfl (r_eql rfl rfl) <| was rfl rfl <| wl_sq ?_
 refine wcx hx rfl (fun hx => ?_) (fun hx => ?_)
 refine wc_mid (fun (u : Unit) => [(2, (pt b291 0)), (3, (pt b298 0))]) (fun (u : Unit) w' => St ⟨w, X, S⟩ [oBox b291 #[(iv 0), (.string ByteArray.empty), (iv 0), (iv 0), (iv 0), (.slice none 0 0), (.slice none 0 0)] 59, oBox b298 #[(iv c.kind), (.string ByteArray.empty), (iv c.client), (iv 0), (iv c.n), (.slice none 0 0), (.slice none 0 0)] 59] [] w') ?_ ?_
 refine wc_drawM (fun w' => ∃ m rs, St ⟨w, X, S⟩ m rs w' ∧ oBox b287 #[(iv c.kind), (.string c.doc), (iv c.client), (iv c.seq), (iv c.n), s_c_5.v, s_c_6.v] 59 ∈ m) Tryz_mixed <| wm_run [(0, 0), (1, 0), (4, 0)] 5 (fun _ h' => ⟨_, _, hM.call h', m2⟩) rfl rfl (by kernel_rfl) (by kernel_rfl) rfl <| ov rfl (fun w' h' => r_fld u59 rfl rfl sz3 rfl) <| ov rfl (fun w' h' => r_ldB u3 rfl rfl (hM.call h') m2 rfl) <| ov rfl (fun w' h' => r_fld u59 rfl rfl sz3 rfl) <| o_nilM hM fun _ hM => wm_free 2 4 rfl rfl (by kernel_rfl) (by kernel_rfl) rfl (fun _ _ => r_fld u59 rfl rfl sz3 rfl) <| wm_free 3 3 rfl rfl (by kernel_rfl) (by kernel_rfl) rfl (fun _ ⟨_, _, hM, q0⟩ => r_ldB u3 rfl rfl hM q0 rfl) <| wm_run [(5, 2), (6, 0)] 1 (fun _ h' => ⟨_, _, hM.call h', m2⟩) rfl rfl (by kernel_rfl) (by kernel_rfl) rfl <| o_exu fun _ h734 => ?_
 have hM := hM.call h734
 refine x_stB #[(iv c.kind), (.string ByteArray.empty), (iv c.client), (iv 0), (iv 0), (.slice none 0 0), (.slice none 0 0)] sz3 rfl rfl rfl rfl rfl rfl hM ?_; intro w731 hM
 refine ov rfl (fun w' h' => r_fld u59 rfl rfl sz3 rfl) <| o_nilM hM fun _ hM => wm_run [(7, 2)] 0 (fun _ h' => ⟨_, _, hM.call h', m2⟩) rfl rfl (by kernel_rfl) (by kernel_rfl) rfl <| o_exu fun _ h741 => ?_
 have hM := hM.call h741
 refine x_stB #[(iv c.kind), (.string ByteArray.empty), (iv c.client), (iv 0), (iv c.n), (.slice none 0 0), (.slice none 0 0)] sz3 rfl rfl rfl rfl rfl rfl hM ?_; intro w738 hM
 refine o_nilM hM fun _ hM => wm_end (fun _ h' => ⟨_, _, hM.call h', m2⟩) (by kernel_rfl) fun _ hw745 => ?_
 have hM := hM.call hw745
 replace hM := hM.p1
 replace hM := hM.t2
 have hM := hM.fewer rsN
 replace hM : St ⟨w, X, S⟩ [oBox b291 #[(iv 0), (.string ByteArray.empty), (iv 0), (iv 0), (iv 0), (.slice none 0 0), (.slice none 0 0)] 59, oBox b298 #[(iv c.kind), (.string ByteArray.empty), (iv c.client), (iv 0), (iv c.n), (.slice none 0 0), (.slice none 0 0)] 59] [] _ := hM
 exact mid_c () ⟨rfl, rfl, trivial⟩ hM
 rintro u w746 hM
 refine bk_n <| sq_n <| wc_sr <| wv rfl (r_ldBS u59 sz59 rfl (us := [(iv c.kind), (.string ByteArray.empty), (iv c.client), (iv 0), (iv c.n), (.slice none 0 0), (.slice none 0 0)]) rfl hM m1 rfl) ?_
 refine w_exu (x_stB #[(iv c.kind), (.string ByteArray.empty), (iv c.client), (iv 0), (iv c.n), (.slice none 0 0), (.slice none 0 0)] sz59 rfl rfl rfl rfl rfl rfl hM ?_); intro w748 hM
 refine wl_sq <| wc_ret ?_
 obtain rfl := oi hx
 have hM := hM.nilR0 (T := DPart) 3 fDPart
 have hM := hM.nilR0 (T := Int) 1 fI
 refine fin_ret [(.agg #[(iv c.kind), (.string ByteArray.empty), (iv c.client), (iv 0), (iv c.n), nS.v, nS.v])] ⟨rv_box u59 sz59 rfl rfl hM m0, trivial⟩ ?_
 replace hM := hM.t0
 exact ⟨(nS, nS), rfl, (hM.fewer (rsC m1 (rsC m0 rsN))).gives⟩
 refine wc_sr <| wv rfl (r_eql rfl rfl) <| was rfl rfl <| wl_sq ?_
 refine wcx hx rfl (fun hx => ?_) (fun hx => ?_)
 refine wc_region <| wv rfl (r_fld u59 rfl rfl sz3 rfl) <| wv rfl (r_ldB u3 rfl rfl hM m2 rfl) <| wv rfl (r_fld u59 rfl rfl sz3 rfl) ?_
 refine w_exu (x_stB #[(iv c.kind), (.string ByteArray.empty), (iv c.client), (iv 0), (iv 0), (.slice none 0 0), (.slice none 0 0)] sz3 rfl rfl rfl rfl rfl rfl hM ?_); intro w756 hM
 refine wl_nil <| bk_n <| sq_n <| wc_sr <| wv rfl (r_ldBS u59 sz59 rfl (us := [(iv c.kind), (.string ByteArray.empty), (iv c.client), (iv 0), (iv 0), (.slice none 0 0), (.slice none 0 0)]) rfl hM m0 rfl) ?_
 replace hM := hM.p1
 refine w_exu (x_stB #[(iv c.kind), (.string ByteArray.empty), (iv c.client), (iv 0), (iv 0), (.slice none 0 0), (.slice none 0 0)] sz59 rfl rfl rfl rfl rfl rfl hM ?_); intro w759 hM
 refine wl_sq <| wc_ret ?_
 obtain rfl := oi hx
 have hM := hM.nilR0 (T := DPart) 3 fDPart
 have hM := hM.nilR0 (T := Int) 1 fI
 refine fin_ret [(.agg #[(iv c.kind), (.string ByteArray.empty), (iv c.client), (iv 0), (iv 0), nS.v, nS.v])] ⟨rv_box u59 sz59 rfl rfl hM m0, trivial⟩ ?_
 replace hM := hM.t0
 exact ⟨(nS, nS), rfl, (hM.fewer (rsC m1 (rsC m0 rsN))).gives⟩
 refine wc_skip <| bk_n <| sq_n <| wc_sr <| wv rfl (r_ldBS u59 sz59 rfl (us := [(iv c.kind), (.string ByteArray.empty), (iv 0), (iv 0), (iv 0), (.slice none 0 0), (.slice none 0 0)]) rfl hM m0 rfl) ?_
 replace hM := hM.p1
 refine w_exu (x_stB #[(iv c.kind), (.string ByteArray.empty), (iv 0), (iv 0), (iv 0), (.slice none 0 0), (.slice none 0 0)] sz59 rfl rfl rfl rfl rfl rfl hM ?_); intro w762 hM
 refine wl_sq <| wc_ret ?_
 obtain rfl := oi hx
 have hM := hM.nilR0 (T := DPart) 3 fDPart
 have hM := hM.nilR0 (T := Int) 1 fI
 refine fin_ret [(.agg #[(iv c.kind), (.string ByteArray.empty), (iv 0), (iv 0), (iv 0), nS.v, nS.v])] ⟨rv_box u59 sz59 rfl rfl hM m0, trivial⟩ ?_
 replace hM := hM.t0
 exact ⟨(nS, nS), rfl, (hM.fewer (rsC m1 (rsC m0 rsN))).gives⟩

noncomputable def x_impl_CallSame (a : DCall) (b : DCall) : Option Bool :=
  Option.bind (bif decide (a.kind = b.kind) then (some (decide (a.doc = b.doc))) else (some false)) fun c16 => Option.bind (bif c16 then (some (decide (a.client = b.client))) else (some false)) fun c29 => Option.bind (bif c29 then (some (decide (a.seq = b.seq))) else (some false)) fun c42 => Option.bind (bif c42 then (some (decide (a.n = b.n))) else (some false)) fun c55 => Option.bind (bif c55 then (Option.bind (x_impl_OpSame a.o b.o) fun r81 => some r81) else (some false)) fun c68 => Option.bind (bif c68 then (Option.bind (x_slices_Equal_int_int a.text b.text) fun r98 => some r98) else (some false)) fun c85 => some c85
theorem ct_impl_CallSame (w : World) (X S : Bs) (a : DCall) (s_a_5 : Sv) (s_a_6 : Sv) (b : DCall) (s_b_5 : Sv) (s_b_6 : Sv) (hS : SX X S w) (a_a_5 : (cSl 3 fDPart a.o).rd S w s_a_5.v) (a_a_6 : (cSl 1 fI a.text).rd S w s_a_6.v) (a_b_5 : (cSl 3 fDPart b.o).rd S w s_b_5.v) (a_b_6 : (cSl 1 fI b.text).rd S w s_b_6.v) (oL : Sep [] X w) {r : Bool} (hx : x_impl_CallSame a b = some r) :
 Ret Tryz.prog 127 [(.agg #[(iv a.kind), (.string a.doc), (iv a.client), (iv a.seq), (iv a.n), s_a_5.v, s_a_6.v]), (.agg #[(iv b.kind), (.string b.doc), (iv b.client), (iv b.seq), (iv b.n), s_b_5.v, s_b_6.v])] w (KV X S w (bv r)) := by
 unfold x_impl_CallSame at hx
 refine enter Tryz.func127 rfl Tryz.ntmps127 (by kernel_rfl) rfl ?_
 have hM := ((((St.enter oL hS).addV a_a_5).addV a_a_6).addV a_b_5).addV a_b_6
 refine wc_sr ?_
 refine w_ex rfl (x_box rfl hM ?_); intro b103 w102 hR104 hM
 refine w_ex rfl (x_box rfl hM ?_); intro b107 w106 hR108 hM
 refine was rfl rfl <| wl_sq <| wc_sr <| wv rfl (r_fld u59 rfl rfl sz3 rfl) <| wv rfl (r_ldB u3 rfl rfl hM m1 rfl) <| wv rfl (r_fld u59 rfl rfl sz3 rfl) <| wv rfl (r_ldB u3 rfl rfl hM m0 rfl) <| wv rfl (r_eql rfl rfl) <| wmv rfl rfl <| bs hx fun c117 hx hx124 => ?_
 refine wl_midH 6 [(16, (bv c117)), (2, (pt b103 0)), (3, (pt b107 0))] hM ?_ fun w125 hM => ?_
 refine cs2 hx (fun hg118 hx => ?_) (fun hg118 hx => ?_)
 refine gv rfl hg118 rfl (r_fld u59 rfl rfl sz9 rfl) <| gv rfl hg118 rfl (r_ldB u9 rfl rfl hM m1 rfl) <| gv rfl hg118 rfl (r_fld u59 rfl rfl sz9 rfl) <| gv rfl hg118 rfl (r_ldB u9 rfl rfl hM m0 rfl) <| gv rfl hg118 rfl (r_eqls rfl rfl) <| wv rfl (p_t rfl hg118 rfl) ?_
 cases hx
 exact mid_h ⟨rfl, rfl, rfl, trivial⟩ hM
 refine gn hg118 rfl rfl <| gn hg118 rfl rfl <| gn hg118 rfl rfl <| gn hg118 rfl rfl <| gn hg118 rfl rfl <| wv rfl (p_f rfl hg118 rfl) ?_
 obtain rfl := oi hx
 exact mid_h ⟨rfl, rfl, rfl, trivial⟩ hM
 replace hx := hx124
 refine wmv rfl rfl <| bs hx fun c132 hx hx139 => ?_
 refine wl_midH 6 [(23, (bv c132)), (2, (pt b103 0)), (3, (pt b107 0))] hM ?_ fun w140 hM => ?_
 refine cs2 hx (fun hg133 hx => ?_) (fun hg133 hx => ?_)
 refine gv rfl hg133 rfl (r_fld u59 rfl rfl sz3 rfl) <| gv rfl hg133 rfl (r_ldB u3 rfl rfl hM m1 rfl) <| gv rfl hg133 rfl (r_fld u59 rfl rfl sz3 rfl) <| gv rfl hg133 rfl (r_ldB u3 rfl rfl hM m0 rfl) <| gv rfl hg133 rfl (r_eql rfl rfl) <| wv rfl (p_t rfl hg133 rfl) ?_
 cases hx
 exact mid_h ⟨rfl, rfl, rfl, trivial⟩ hM
 refine gn hg133 rfl rfl <| gn hg133 rfl rfl <| gn hg133 rfl rfl <| gn hg133 rfl rfl <| gn hg133 rfl rfl <| wv rfl (p_f rfl hg133 rfl) ?_
 obtain rfl := oi hx
 exact mid_h ⟨rfl, rfl, rfl, trivial⟩ hM
 replace hx := hx139
 refine wmv rfl rfl <| bs hx fun c147 hx hx154 => ?_
 refine wl_midH 6 [(30, (bv c147)), (2, (pt b103 0)), (3, (pt b107 0))] hM ?_ fun w155 hM => ?_
 refine cs2 hx (fun hg148 hx => ?_) (fun hg148 hx => ?_)
 refine gv rfl hg148 rfl (r_fld u59 rfl rfl sz3 rfl) <| gv rfl hg148 rfl (r_ldB u3 rfl rfl hM m1 rfl) <| gv rfl hg148 rfl (r_fld u59 rfl rfl sz3 rfl) <| gv rfl hg148 rfl (r_ldB u3 rfl rfl hM m0 rfl) <| gv rfl hg148 rfl (r_eql rfl rfl) <| wv rfl (p_t rfl hg148 rfl) ?_
 cases hx
 exact mid_h ⟨rfl, rfl, rfl, trivial⟩ hM
 refine gn hg148 rfl rfl <| gn hg148 rfl rfl <| gn hg148 rfl rfl <| gn hg148 rfl rfl <| gn hg148 rfl rfl <| wv rfl (p_f rfl hg148 rfl) ?_
 obtain rfl := oi hx
 exact mid_h ⟨rfl, rfl, rfl, trivial⟩ hM
 replace hx := hx154
 refine wmv rfl rfl <| bs hx fun c162 hx hx169 => ?_
 refine wl_midH 6 [(37, (bv c162)), (2, (pt b103 0)), (3, (pt b107 0))] hM ?_ fun w170 hM => ?_
 refine cs2 hx (fun hg163 hx => ?_) (fun hg163 hx => ?_)
 refine gv rfl hg163 rfl (r_fld u59 rfl rfl sz3 rfl) <| gv rfl hg163 rfl (r_ldB u3 rfl rfl hM m1 rfl) <| gv rfl hg163 rfl (r_fld u59 rfl rfl sz3 rfl) <| gv rfl hg163 rfl (r_ldB u3 rfl rfl hM m0 rfl) <| gv rfl hg163 rfl (r_eql rfl rfl) <| wv rfl (p_t rfl hg163 rfl) ?_
 cases hx
 exact mid_h ⟨rfl, rfl, rfl, trivial⟩ hM
 refine gn hg163 rfl rfl <| gn hg163 rfl rfl <| gn hg163 rfl rfl <| gn hg163 rfl rfl <| gn hg163 rfl rfl <| wv rfl (p_f rfl hg163 rfl) ?_
 obtain rfl := oi hx
 exact mid_h ⟨rfl, rfl, rfl, trivial⟩ hM
 replace hx := hx169
 refine wmv rfl rfl <| bs hx fun c177 hx hx186 => ?_
 refine wl_midH 6 [(44, (bv c177)), (2, (pt b103 0)), (3, (pt b107 0))] hM ?_ fun w187 hM => ?_
 refine cs2 hx (fun hg178 hx => ?_) (fun hg178 hx => ?_)
 refine gv rfl hg178 rfl (r_fld u59 rfl rfl sz57 rfl) <| gv rfl hg178 rfl (r_ldB u57 rfl rfl hM m1 rfl) <| gv rfl hg178 rfl (r_fld u59 rfl rfl sz57 rfl) <| gv rfl hg178 rfl (r_ldB u57 rfl rfl hM m0 rfl) <| bs hx fun _ h193 hx => g_cv hM hg178 rfl rfl rfl (fun X S oL hS hR hO => ct_impl_OpSame _ X S a.o s_a_5 b.o s_b_5 hS (hR _ m3) (hR _ m1) oL h193) fun _ hM => wv rfl (p_t rfl hg178 rfl) ?_
 obtain rfl := oi hx
 exact mid_h ⟨rfl, rfl, rfl, trivial⟩ hM
 refine gn hg178 rfl rfl <| gn hg178 rfl rfl <| gn hg178 rfl rfl <| gn hg178 rfl rfl <| gn hg178 rfl rfl <| wv rfl (p_f rfl hg178 rfl) ?_
 obtain rfl := oi hx
 exact mid_h ⟨rfl, rfl, rfl, trivial⟩ hM
 replace hx := hx186
 refine wmv rfl rfl <| bs hx fun c196 hx hx205 => ?_
 refine wl_midH 6 [(51, (bv c196))] hM ?_ fun w206 hM => ?_
 refine cs2 hx (fun hg197 hx => ?_) (fun hg197 hx => ?_)
 refine gv rfl hg197 rfl (r_fld u59 rfl rfl sz26 rfl) <| gv rfl hg197 rfl (r_ldB u26 rfl rfl hM m1 rfl) <| gv rfl hg197 rfl (r_fld u59 rfl rfl sz26 rfl) <| gv rfl hg197 rfl (r_ldB u26 rfl rfl hM m0 rfl) <| bs hx fun _ h212 hx => g_cv hM hg197 rfl rfl rfl (fun X S oL hS hR hO => ct_slices_Equal_int_int _ X S a.text s_a_6 b.text s_b_6 hS (hR _ m2) (hR _ m0) oL h212) fun _ hM => wv rfl (p_t rfl hg197 rfl) ?_
 obtain rfl := oi hx
 exact mid_h ⟨rfl, trivial⟩ hM
 refine gn hg197 rfl rfl <| gn hg197 rfl rfl <| gn hg197 rfl rfl <| gn hg197 rfl rfl <| gn hg197 rfl rfl <| wv rfl (p_f rfl hg197 rfl) ?_
 obtain rfl := oi hx
 exact mid_h ⟨rfl, trivial⟩ hM
 replace hx := hx205
 refine was rfl rfl <| wl_sq <| wc_ret ?_
 obtain rfl := oi hx
 exact fin_u [(bv c196)] hM ⟨rfl, trivial⟩ rfl

noncomputable def x_impl_CallOk (c : DCall) : Option Bool :=
  Option.bind (x_impl_within c.kind 1 8) fun r8 => Option.bind (bif r8 then (some (decide ((c.doc.size : Int) ≤ 8))) else (some false)) fun c12 => Option.bind (bif c12 then (Option.bind (x_impl_partsOk c.o) fun r32 => some r32) else (some false)) fun c23 => Option.bind (bif c23 then (Option.bind (x_impl_TextOk c.text) fun r45 => some r45) else (some false)) fun c36 => Option.bind (bif c36 then (Option.bind (x_impl_used c) fun r68 => Option.bind (x_impl_CallSame c r68) fun r76 => some r76) else (some false)) fun c49 => some c49
theorem ct_impl_CallOk (w : World) (X S : Bs) (c : DCall) (s_c_5 : Sv) (s_c_6 : Sv) (hS : SX X S w) (a_c_5 : (cSl 3 fDPart c.o).rd S w s_c_5.v) (a_c_6 : (cSl 1 fI c.text).rd S w s_c_6.v) (oL : Sep [] X w) {r : Bool} (hx : x_impl_CallOk c = some r) :
 Ret Tryz.prog 81 [(.agg #[(iv c.kind), (.string c.doc), (iv c.client), (iv c.seq), (iv c.n), s_c_5.v, s_c_6.v])] w (KV X S w (bv r)) := by
 unfold x_impl_CallOk at hx
 refine enter Tryz.func81 rfl Tryz.ntmps81 (by kernel_rfl) rfl ?_
 have hM := ((St.enter oL hS).addV a_c_5).addV a_c_6
 refine wc_sr ?_
 refine w_ex rfl (x_box rfl hM ?_); intro b85 w84 hR86 hM
 refine was rfl rfl <| wl_sq <| wc_seq <| wc_draw [(0, 0), (1, 0), (2, 0), (3, 0), (4, 0), (5, 0), (6, 0), (7, 0), (8, 0), (9, 0), (10, 0), (11, 0), (12, 0), (13, 0), (14, 0), (15, 0), (16, 0), (17, 0), (18, 0), (19, 0), (20, 0), (21, 0), (22, 1), (23, 0), (24, 0), (25, 0)] Tryz_mixed (by kernel_rfl) rfl (by kernel_rfl) rfl <| ov rfl (fun w' h' => r_fld u59 rfl rfl sz3 rfl) <| ov rfl (fun w' h' => r_ldB u3 rfl rfl (hM.call h') m0 rfl) <| bs hx fun _ h92 hx => oc rfl rfl (fun w' h' => (hM.call h').callV fun X S oL hS hR hO => ct_impl_within _ X S c.kind (1 : Int) (8 : Int) hS  oL h92) <| omv rfl rfl <| bs hx fun c95 hx hx101 => ?_
 refine wo_mid 5 [(11, (bv c95)), (1, (pt b85 0))] rfl ?_ ?_
 refine cs2 hx (fun hg96 hx => ?_) (fun hg96 hx => ?_)
 refine ogv rfl hg96 rfl (fun w' h' => r_fld u59 rfl rfl sz9 rfl) <| ogv rfl hg96 rfl (fun w' h' => r_ldB u9 rfl rfl (hM.call h') m0 rfl) <| ogv rfl hg96 rfl (fun w' h' => r_lens u9 rfl) <| ogv rfl hg96 rfl (fun w' h' => r_leq rfl rfl) <| ov rfl (fun w' h' => p_t rfl hg96 rfl) ?_
 cases hx
 exact mid_onil ⟨rfl, rfl, trivial⟩
 refine ogs rfl (isB_no hg96) rfl <| ogs rfl (isB_no hg96) rfl <| ogs rfl (isB_no hg96) rfl <| ogs rfl (isB_no hg96) rfl <| ov rfl (fun w' h' => p_f rfl hg96 rfl) ?_
 obtain rfl := oi hx
 exact mid_onil ⟨rfl, rfl, trivial⟩
 replace hx := hx101
 refine omv rfl rfl <| bs hx fun c107 hx hx114 => ?_
 refine wo_mid 4 [(16, (bv c107)), (1, (pt b85 0))] rfl ?_ ?_
 refine cs2 hx (fun hg108 hx => ?_) (fun hg108 hx => ?_)
 refine ogv rfl hg108 rfl (fun w' h' => r_fld u59 rfl rfl sz57 rfl) <| ogv rfl hg108 rfl (fun w' h' => r_ldB u57 rfl rfl (hM.call h') m0 rfl) <| bs hx fun _ h118 hx => ogc rfl hg108 rfl rfl (fun w' h' => (hM.call h').callV fun X S oL hS hR hO => ct_impl_partsOk _ X S c.o s_c_5 hS (hR _ m1) oL h118) <| ov rfl (fun w' h' => p_t rfl hg108 rfl) ?_
 obtain rfl := oi hx
 exact mid_onil ⟨rfl, rfl, trivial⟩
 refine ogs rfl (isB_no hg108) rfl <| ogs rfl (isB_no hg108) rfl <| ogs rfl (isB_no hg108) rfl <| ov rfl (fun w' h' => p_f rfl hg108 rfl) ?_
 obtain rfl := oi hx
 exact mid_onil ⟨rfl, rfl, trivial⟩
 replace hx := hx114
 refine omv rfl rfl <| bs hx fun c121 hx hx128 => ?_
 refine wo_mid 4 [(21, (bv c121)), (1, (pt b85 0))] rfl ?_ ?_
 refine cs2 hx (fun hg122 hx => ?_) (fun hg122 hx => ?_)
 refine ogv rfl hg122 rfl (fun w' h' => r_fld u59 rfl rfl sz26 rfl) <| ogv rfl hg122 rfl (fun w' h' => r_ldB u26 rfl rfl (hM.call h') m0 rfl) <| bs hx fun _ h132 hx => ogc rfl hg122 rfl rfl (fun w' h' => (hM.call h').callV fun X S oL hS hR hO => ct_impl_TextOk _ X S c.text s_c_6 hS (hR _ m0) oL h132) <| ov rfl (fun w' h' => p_t rfl hg122 rfl) ?_
 obtain rfl := oi hx
 exact mid_onil ⟨rfl, rfl, trivial⟩
 refine ogs rfl (isB_no hg122) rfl <| ogs rfl (isB_no hg122) rfl <| ogs rfl (isB_no hg122) rfl <| ov rfl (fun w' h' => p_f rfl hg122 rfl) ?_
 obtain rfl := oi hx
 exact mid_onil ⟨rfl, rfl, trivial⟩
 replace hx := hx128
 refine omv rfl rfl <| bs hx fun c135 hx hx152 => ?_
 refine wo_midM 5 (fun _ : Unit => [(27, (bv c135))]) (fun _ w' => St ⟨w, X, S⟩ [oBox b85 #[(iv c.kind), (.string c.doc), (iv c.client), (iv c.seq), (iv c.n), s_c_5.v, s_c_6.v] 59] [rV s_c_6.v (cSl 1 fI c.text), rV s_c_5.v (cSl 3 fDPart c.o)] w') ?_ ?_
 refine cs2 hx (fun hg136 hx => ?_) (fun hg136 hx => ?_)
 refine ogv rfl hg136 rfl (fun w' h' => r_ldBS u59 sz59 rfl (us := [(iv c.kind), (.string c.doc), (iv c.client), (iv c.seq), (iv c.n), s_c_5.v, s_c_6.v]) rfl (hM.call h') m0 rfl) <| ogv rfl hg136 rfl (fun w' h' => r_ldBS u59 sz59 rfl (us := [(iv c.kind), (.string c.doc), (iv c.client), (iv c.seq), (iv c.n), s_c_5.v, s_c_6.v]) rfl (hM.call h') m0 rfl) <| bs hx fun r155 h156 hx => og_forced rfl hg136 rfl rfl (fun w' h' => (hM.call h').callFR fun X S oL hS hR => ct_impl_used _ X S c s_c_5 s_c_6 hS (hR _ m1) (hR _ m0) oL h156) ?_
 rintro w160 h161 _ w157 ⟨hR162, ⟨s158, s159⟩, rfl, hM⟩
 refine ⟨hR162, ?_⟩
 dsimp only [List.cons_append, List.nil_append] at hM
 refine bs hx fun _ h164 hx => ogc rfl hg136 rfl rfl (fun w' h' => (hM.call h').callV fun X S oL hS hR hO => ct_impl_CallSame _ X S c s_c_5 s_c_6 r155 s158 s159 hS (hR _ m3) (hR _ m2) (hR _ m0) (hR _ m1) oL h164) <| ov rfl (fun w' h' => p_t rfl hg136 rfl) ?_
 obtain rfl := oi hx
 replace hM : St ⟨w, X, S⟩ [oBox b85 #[(iv c.kind), (.string c.doc), (iv c.client), (iv c.seq), (iv c.n), s_c_5.v, s_c_6.v] 59] [rV s_c_6.v (cSl 1 fI c.text), rV s_c_5.v (cSl 3 fDPart c.o)] _ := hM.dropR 2
 exact mid_onilM () ⟨rfl, trivial⟩ fun w' h' => hM.call h'
 refine ogs rfl (isB_no hg136) rfl <| ogs rfl (isB_no hg136) rfl <| ogs1 rfl (isB_no hg136) rfl fun _ h167 => ?_
 have hM := hM.call h167
 refine ogs rfl (isB_no hg136) rfl <| ov rfl (fun w' h' => p_f rfl hg136 rfl) ?_
 obtain rfl := oi hx
 exact mid_onilM () ⟨rfl, trivial⟩ fun w' h' => hM.call h'
 rintro _ w168 hM
 replace hx := hx152
 refine ov rfl (fun w' h' => r_assign rfl) <| o_nilM hM fun _ hM => sq_n <| wc_ret ?_
 obtain rfl := oi hx
 exact fin_u [(bv c135)] hM ⟨rfl, trivial⟩ rfl

noncomputable def x_spec_l12Kind (k : Int) : Option Bool :=
  Option.bind (x_spec_l01In k 1 8) fun r3 => some r3
theorem ct_spec_l12Kind (w : World) (X S : Bs) (k : Int) (hS : SX X S w)  (oL : Sep [] X w) {r : Bool} (hx : x_spec_l12Kind k = some r) :
 Ret Tryz.prog 102 [(iv k)] w (KV X S w (bv r)) := by
 unfold x_spec_l12Kind at hx
 refine enter Tryz.func102 rfl Tryz.ntmps102 (by kernel_rfl) rfl ?_
 have hM := St.enter oL hS
 refine wc_sr <| was rfl rfl <| wl_sq <| wc_sr <| wmv rfl rfl <| bs hx fun r9 h10 hx => w_cv hM rfl rfl (fun X S oL hS hR hO => ct_spec_l01In _ X S k (1 : Int) (8 : Int) hS  oL h10) fun _ hM => was rfl rfl <| wl_sq <| wc_ret ?_
 obtain rfl := oi hx
 exact fin_u [(bv r9)] hM ⟨rfl, trivial⟩ rfl

noncomputable def x_spec_OnDoc (k : Int) : Option Bool :=
  Option.bind (x_spec_l01In k 1 5) fun r3 => some r3
theorem ct_spec_OnDoc (w : World) (X S : Bs) (k : Int) (hS : SX X S w)  (oL : Sep [] X w) {r : Bool} (hx : x_spec_OnDoc k = some r) :
 Ret Tryz.prog 75 [(iv k)] w (KV X S w (bv r)) := by
 unfold x_spec_OnDoc at hx
 refine enter Tryz.func75 rfl Tryz.ntmps75 (by kernel_rfl) rfl ?_
 have hM := St.enter oL hS
 refine wc_sr <| was rfl rfl <| wl_sq <| wc_sr <| wmv rfl rfl <| bs hx fun r9 h10 hx => w_cv hM rfl rfl (fun X S oL hS hR hO => ct_spec_l01In _ X S k (1 : Int) (5 : Int) hS  oL h10) fun _ hM => was rfl rfl <| wl_sq <| wc_ret ?_
 obtain rfl := oi hx
 exact fin_u [(bv r9)] hM ⟨rfl, trivial⟩ rfl

noncomputable def x_spec_CallOk (c : DCall) : Option Bool :=
  Option.bind (x_spec_l12Kind c.kind) fun r8 => Option.bind (bif !r8 then (some true) else (some (decide ((8 : Int) < (c.doc.size : Int))))) fun c13 => Option.bind (bif c13 then (some true) else (Option.bind (x_spec_l02Parts c.o) fun r34 => some (!r34))) fun c24 => Option.bind (bif c24 then (some true) else (Option.bind (x_spec_TextOk c.text) fun r49 => some (!r49))) fun c39 => bif c39 then (some false) else (Option.bind (x_spec_OnDoc c.kind) fun r56 => Option.bind (bif !r56 then (some (!decide (c.doc = (⟨#[]⟩ : ByteArray)))) else (some false)) fun c61 => Option.bind (bif c61 then (some true) else (Option.bind (bif !decide (c.kind = 1) then (some (decide ((0 : Int) < (c.text.length : Int)))) else (some false)) fun c90 => some c90)) fun c70 => Option.bind (bif c70 then (some true) else (Option.bind (bif !decide (c.kind = 2) then (Option.bind (bif decide ((0 : Int) < (c.o.length : Int)) then (some true) else (some (!decide (c.seq = 0)))) fun c159 => some c159) else (some false)) fun c139 => some c139)) fun c101 => bif c101 then (some false) else (Option.bind (bif decide (c.kind = 2) then (some true) else (some (decide (c.kind = 6)))) fun c172 => Option.bind (bif c172 then (some true) else (some (decide (c.kind = 7)))) fun c181 => Option.bind (bif decide (c.kind = 2) then (some true) else (some (decide (c.kind = 3)))) fun c194 => Option.bind (bif c194 then (some true) else (some (decide (c.kind = 5)))) fun c203 => Option.bind (bif c203 then (some true) else (some (decide (c.kind = 6)))) fun c212 => Option.bind (bif c181 then (some true) else (some (decide (c.client = 0)))) fun c223 => Option.bind (bif c223 then (Option.bind (bif c212 then (some true) else (some (decide (c.n = 0)))) fun c246 => some c246) else (some false)) fun c232 => some c232))
theorem ct_spec_CallOk (w : World) (X S : Bs) (c : DCall) (s_c_5 : Sv) (s_c_6 : Sv) (hS : SX X S w) (a_c_5 : (cSl 3 fDPart c.o).rd S w s_c_5.v) (a_c_6 : (cSl 1 fI c.text).rd S w s_c_6.v) (oL : Sep [] X w) {r : Bool} (hx : x_spec_CallOk c = some r) :
 Ret Tryz.prog 73 [(.agg #[(iv c.kind), (.string c.doc), (iv c.client), (iv c.seq), (iv c.n), s_c_5.v, s_c_6.v])] w (KV X S w (bv r)) := by
 unfold x_spec_CallOk at hx
 refine enter Tryz.func73 rfl Tryz.ntmps73 (by kernel_rfl) rfl ?_
 have hM := ((St.enter oL hS).addV a_c_5).addV a_c_6
 refine wc_sr ?_
 refine w_ex rfl (x_box rfl hM ?_); intro b256 w255 hR257 hM
 refine was rfl rfl <| wl_sq <| wc_seq <| wc_sr <| wv rfl (r_fld u59 rfl rfl sz3 rfl) <| wv rfl (r_ldB u3 rfl rfl hM m0 rfl) <| bs hx fun _ h263 hx => w_cv hM rfl rfl (fun X S oL hS hR hO => ct_spec_l12Kind _ X S c.kind hS  oL h263) fun _ hM => wv rfl (r_not rfl) <| wmv rfl rfl <| bs hx fun c267 hx hx273 => ?_
 refine wl_midH 5 [(14, (bv c267)), (1, (pt b256 0))] hM ?_ fun w274 hM => ?_
 refine cs2 hx (fun hg268 hx => ?_) (fun hg268 hx => ?_)
 refine gn hg268 rfl rfl <| gn hg268 rfl rfl <| gn hg268 rfl rfl <| gn hg268 rfl rfl <| wv rfl (p_t rfl hg268 rfl) ?_
 obtain rfl := oi hx
 exact mid_h ⟨rfl, rfl, trivial⟩ hM
 refine gv rfl hg268 rfl (r_fld u59 rfl rfl sz9 rfl) <| gv rfl hg268 rfl (r_ldB u9 rfl rfl hM m0 rfl) <| gv rfl hg268 rfl (r_lens u9 rfl) <| gv rfl hg268 rfl (r_gtr rfl rfl) <| wv rfl (p_f rfl hg268 rfl) ?_
 cases hx
 exact mid_h ⟨rfl, rfl, trivial⟩ hM
 replace hx := hx273
 refine wmv rfl rfl <| bs hx fun c280 hx hx288 => ?_
 refine wl_midH 5 [(20, (bv c280)), (1, (pt b256 0))] hM ?_ fun w289 hM => ?_
 refine cs2 hx (fun hg281 hx => ?_) (fun hg281 hx => ?_)
 refine gn hg281 rfl rfl <| gn hg281 rfl rfl <| gn hg281 rfl rfl <| gn hg281 rfl rfl <| wv rfl (p_t rfl hg281 rfl) ?_
 obtain rfl := oi hx
 exact mid_h ⟨rfl, rfl, trivial⟩ hM
 refine gv rfl hg281 rfl (r_fld u59 rfl rfl sz57 rfl) <| gv rfl hg281 rfl (r_ldB u57 rfl rfl hM m0 rfl) <| bs hx fun _ h293 hx => g_cv hM hg281 rfl rfl rfl (fun X S oL hS hR hO => ct_spec_l02Parts _ X S c.o s_c_5 hS (hR _ m1) oL h293) fun _ hM => gv rfl hg281 rfl (r_not rfl) <| wv rfl (p_f rfl hg281 rfl) ?_
 cases hx
 exact mid_h ⟨rfl, rfl, trivial⟩ hM
 replace hx := hx288
 refine wmv rfl rfl <| bs hx fun c297 hx hx305 => ?_
 refine wl_midH 5 [(26, (bv c297)), (1, (pt b256 0))] hM ?_ fun w306 hM => ?_
 refine cs2 hx (fun hg298 hx => ?_) (fun hg298 hx => ?_)
 refine gn hg298 rfl rfl <| gn hg298 rfl rfl <| gn hg298 rfl rfl <| gn hg298 rfl rfl <| wv rfl (p_t rfl hg298 rfl) ?_
 obtain rfl := oi hx
 exact mid_h ⟨rfl, rfl, trivial⟩ hM
 refine gv rfl hg298 rfl (r_fld u59 rfl rfl sz26 rfl) <| gv rfl hg298 rfl (r_ldB u26 rfl rfl hM m0 rfl) <| bs hx fun _ h310 hx => g_cv hM hg298 rfl rfl rfl (fun X S oL hS hR hO => ct_spec_TextOk _ X S c.text s_c_6 hS (hR _ m0) oL h310) fun _ hM => gv rfl hg298 rfl (r_not rfl) <| wv rfl (p_f rfl hg298 rfl) ?_
 cases hx
 exact mid_h ⟨rfl, rfl, trivial⟩ hM
 replace hx := hx305
 refine wl_sq ?_
 refine wcx hx rfl (fun hx => ?_) (fun hx => ?_)
 refine wc_sr <| was rfl rfl <| wl_sq <| wc_ret <| sq_ret ?_
 obtain rfl := oi hx
 exact fin_u [(bv false)] hM ⟨rfl, trivial⟩ rfl
 refine wc_skip <| sq_n <| wc_seq <| wc_sr <| wv rfl (r_fld u59 rfl rfl sz3 rfl) <| wv rfl (r_ldB u3 rfl rfl hM m0 rfl) <| bs hx fun _ h318 hx => w_cv hM rfl rfl (fun X S oL hS hR hO => ct_spec_OnDoc _ X S c.kind hS  oL h318) fun _ hM => wv rfl (r_not rfl) <| wmv rfl rfl <| bs hx fun c322 hx hx327 => ?_
 refine wl_midH 4 [(35, (bv c322)), (1, (pt b256 0))] hM ?_ fun w328 hM => ?_
 refine cs2 hx (fun hg323 hx => ?_) (fun hg323 hx => ?_)
 refine gv rfl hg323 rfl (r_fld u59 rfl rfl sz9 rfl) <| gv rfl hg323 rfl (r_ldB u9 rfl rfl hM m0 rfl) <| gv rfl hg323 rfl (r_neqs rfl rfl) <| wv rfl (p_t rfl hg323 rfl) ?_
 cases hx
 exact mid_h ⟨rfl, rfl, trivial⟩ hM
 refine gn hg323 rfl rfl <| gn hg323 rfl rfl <| gn hg323 rfl rfl <| wv rfl (p_f rfl hg323 rfl) ?_
 obtain rfl := oi hx
 exact mid_h ⟨rfl, rfl, trivial⟩ hM
 replace hx := hx327
 refine wmv rfl rfl <| bs hx fun c333 hx hx349 => ?_
 refine wl_midH 10 [(46, (bv c333)), (1, (pt b256 0))] hM ?_ fun w350 hM => ?_
 refine cs2 hx (fun hg334 hx => ?_) (fun hg334 hx => ?_)
 refine gn hg334 rfl rfl <| gn hg334 rfl rfl <| gn hg334 rfl rfl <| gn hg334 rfl rfl <| gs rfl rfl rfl <| gs rfl rfl rfl <| gs rfl rfl rfl <| gs rfl rfl rfl <| gn hg334 rfl rfl <| wv rfl (p_t rfl hg334 rfl) ?_
 obtain rfl := oi hx
 exact mid_h ⟨rfl, rfl, trivial⟩ hM
 refine gv rfl hg334 rfl (r_fld u59 rfl rfl sz3 rfl) <| gv rfl hg334 rfl (r_ldB u3 rfl rfl hM m0 rfl) <| gv rfl hg334 rfl (r_neq rfl rfl) <| gv rfl hg334 rfl (r_move rfl) <| bs hx fun c355 hx hx361 => ?_
 refine wl_midH 5 [(45, (bv c355)), (1, (pt b256 0)), (36, (bv c322))] hM ?_ fun w362 hM => ?_
 refine cs2 hx (fun hg356 hx => ?_) (fun hg356 hx => ?_)
 refine gv rfl hg356 rfl (r_fld u59 rfl rfl sz26 rfl) <| gv rfl hg356 rfl (r_ldB u26 rfl rfl hM m0 rfl) <| gv rfl hg356 rfl (r_lenC u26 rfl (hM.seeR m0)) <| gv rfl hg356 rfl (r_gtr rfl rfl) <| gv rfl hg334 rfl (p_t rfl hg356 rfl) ?_
 cases hx
 exact mid_h ⟨rfl, rfl, rfl, trivial⟩ hM
 refine gn hg356 rfl rfl <| gn hg356 rfl rfl <| gn hg356 rfl rfl <| gn hg356 rfl rfl <| gv rfl hg334 rfl (p_f rfl hg356 rfl) ?_
 obtain rfl := oi hx
 exact mid_h ⟨rfl, rfl, rfl, trivial⟩ hM
 replace hx := hx361
 refine wv rfl (p_f rfl hg334 rfl) ?_
 obtain rfl := oi hx
 exact mid_h ⟨rfl, rfl, trivial⟩ hM
 replace hx := hx349
 refine wmv rfl rfl <| bs hx fun c368 hx hx402 => ?_
 refine wl_midH 15 [(62, (bv c368)), (1, (pt b256 0))] hM ?_ fun w403 hM => ?_
 refine cs2 hx (fun hg369 hx => ?_) (fun hg369 hx => ?_)
 refine gn hg369 rfl rfl <| gn hg369 rfl rfl <| gn hg369 rfl rfl <| gn hg369 rfl rfl <| gs rfl rfl rfl <| gs rfl rfl rfl <| gs rfl rfl rfl <| gs rfl rfl rfl <| gs rfl rfl rfl <| gs rfl rfl rfl <| gs rfl rfl rfl <| gs rfl rfl rfl <| gs rfl rfl rfl <| gn hg369 rfl rfl ?_
 refine wv rfl (p_t rfl hg369 rfl) ?_
 obtain rfl := oi hx
 exact mid_h ⟨rfl, rfl, trivial⟩ hM
 refine gv rfl hg369 rfl (r_fld u59 rfl rfl sz3 rfl) <| gv rfl hg369 rfl (r_ldB u3 rfl rfl hM m0 rfl) <| gv rfl hg369 rfl (r_neq rfl rfl) <| gv rfl hg369 rfl (r_move rfl) <| bs hx fun c408 hx hx423 => ?_
 refine wl_midH 10 [(61, (bv c408)), (1, (pt b256 0)), (47, (bv c333))] hM ?_ fun w424 hM => ?_
 refine cs2 hx (fun hg409 hx => ?_) (fun hg409 hx => ?_)
 refine gv rfl hg409 rfl (r_fld u59 rfl rfl sz57 rfl) <| gv rfl hg409 rfl (r_ldB u57 rfl rfl hM m0 rfl) <| gv rfl hg409 rfl (r_lenC u57 rfl (hM.seeR m1)) <| gv rfl hg409 rfl (r_gtr rfl rfl) <| gv rfl hg409 rfl (r_move rfl) <| bs hx fun c430 hx hx435 => ?_
 refine wl_midH 4 [(60, (bv c430)), (1, (pt b256 0)), (47, (bv c333)), (51, (bv (!decide (c.kind = 2))))] hM ?_ fun w436 hM => ?_
 refine cs2 hx (fun hg431 hx => ?_) (fun hg431 hx => ?_)
 refine gn hg431 rfl rfl <| gn hg431 rfl rfl <| gn hg431 rfl rfl <| gv rfl hg409 rfl (p_t rfl hg431 rfl) ?_
 obtain rfl := oi hx
 exact mid_h ⟨rfl, rfl, rfl, rfl, trivial⟩ hM
 refine gv rfl hg431 rfl (r_fld u59 rfl rfl sz3 rfl) <| gv rfl hg431 rfl (r_ldB u3 rfl rfl hM m0 rfl) <| gv rfl hg431 rfl (r_neq rfl rfl) <| gv rfl hg409 rfl (p_f rfl hg431 rfl) ?_
 cases hx
 exact mid_h ⟨rfl, rfl, rfl, rfl, trivial⟩ hM
 replace hx := hx435
 refine gv rfl hg369 rfl (p_t rfl hg409 rfl) ?_
 obtain rfl := oi hx
 exact mid_h ⟨rfl, rfl, rfl, trivial⟩ hM
 refine gn hg409 rfl rfl <| gn hg409 rfl rfl <| gn hg409 rfl rfl <| gn hg409 rfl rfl <| gn hg409 rfl rfl <| gs rfl rfl rfl <| gs rfl rfl rfl <| gs rfl rfl rfl <| gn hg409 rfl rfl <| gv rfl hg369 rfl (p_f rfl hg409 rfl) ?_
 obtain rfl := oi hx
 exact mid_h ⟨rfl, rfl, rfl, trivial⟩ hM
 replace hx := hx423
 refine wv rfl (p_f rfl hg369 rfl) ?_
 obtain rfl := oi hx
 exact mid_h ⟨rfl, rfl, trivial⟩ hM
 replace hx := hx402
 refine wl_sq ?_
 refine wcx hx rfl (fun hx => ?_) (fun hx => ?_)
 refine wc_sr <| was rfl rfl <| wl_sq <| wc_ret <| sq_ret ?_
 obtain rfl := oi hx
 exact fin_u [(bv false)] hM ⟨rfl, trivial⟩ rfl
 refine wc_skip <| sq_n <| wc_sr <| wv rfl (r_fld u59 rfl rfl sz3 rfl) <| wv rfl (r_ldB u3 rfl rfl hM m0 rfl) <| wv rfl (r_eql rfl rfl) <| wmv rfl rfl <| bs hx fun c446 hx hx451 => ?_
 refine wl_midH 4 [(70, (bv c446)), (1, (pt b256 0))] hM ?_ fun w452 hM => ?_
 refine cs2 hx (fun hg447 hx => ?_) (fun hg447 hx => ?_)
 refine gn hg447 rfl rfl <| gn hg447 rfl rfl <| gn hg447 rfl rfl <| wv rfl (p_t rfl hg447 rfl) ?_
 obtain rfl := oi hx
 exact mid_h ⟨rfl, rfl, trivial⟩ hM
 refine gv rfl hg447 rfl (r_fld u59 rfl rfl sz3 rfl) <| gv rfl hg447 rfl (r_ldB u3 rfl rfl hM m0 rfl) <| gv rfl hg447 rfl (r_eql rfl rfl) <| wv rfl (p_f rfl hg447 rfl) ?_
 cases hx
 exact mid_h ⟨rfl, rfl, trivial⟩ hM
 replace hx := hx451
 refine wmv rfl rfl <| bs hx fun c457 hx hx462 => ?_
 refine wl_midH 4 [(75, (bv c457)), (1, (pt b256 0))] hM ?_ fun w463 hM => ?_
 refine cs2 hx (fun hg458 hx => ?_) (fun hg458 hx => ?_)
 refine gn hg458 rfl rfl <| gn hg458 rfl rfl <| gn hg458 rfl rfl <| wv rfl (p_t rfl hg458 rfl) ?_
 obtain rfl := oi hx
 exact mid_h ⟨rfl, rfl, trivial⟩ hM
 refine gv rfl hg458 rfl (r_fld u59 rfl rfl sz3 rfl) <| gv rfl hg458 rfl (r_ldB u3 rfl rfl hM m0 rfl) <| gv rfl hg458 rfl (r_eql rfl rfl) <| wv rfl (p_f rfl hg458 rfl) ?_
 cases hx
 exact mid_h ⟨rfl, rfl, trivial⟩ hM
 replace hx := hx462
 refine was rfl rfl <| wl_sq <| wc_sr <| wv rfl (r_fld u59 rfl rfl sz3 rfl) <| wv rfl (r_ldB u3 rfl rfl hM m0 rfl) <| wv rfl (r_eql rfl rfl) <| wmv rfl rfl <| bs hx fun c472 hx hx477 => ?_
 refine wl_midH 4 [(83, (bv c472)), (1, (pt b256 0)), (3, (bv c457))] hM ?_ fun w478 hM => ?_
 refine cs2 hx (fun hg473 hx => ?_) (fun hg473 hx => ?_)
 refine gn hg473 rfl rfl <| gn hg473 rfl rfl <| gn hg473 rfl rfl <| wv rfl (p_t rfl hg473 rfl) ?_
 obtain rfl := oi hx
 exact mid_h ⟨rfl, rfl, rfl, trivial⟩ hM
 refine gv rfl hg473 rfl (r_fld u59 rfl rfl sz3 rfl) <| gv rfl hg473 rfl (r_ldB u3 rfl rfl hM m0 rfl) <| gv rfl hg473 rfl (r_eql rfl rfl) <| wv rfl (p_f rfl hg473 rfl) ?_
 cases hx
 exact mid_h ⟨rfl, rfl, rfl, trivial⟩ hM
 replace hx := hx477
 refine wmv rfl rfl <| bs hx fun c483 hx hx488 => ?_
 refine wl_midH 4 [(88, (bv c483)), (1, (pt b256 0)), (3, (bv c457))] hM ?_ fun w489 hM => ?_
 refine cs2 hx (fun hg484 hx => ?_) (fun hg484 hx => ?_)
 refine gn hg484 rfl rfl <| gn hg484 rfl rfl <| gn hg484 rfl rfl <| wv rfl (p_t rfl hg484 rfl) ?_
 obtain rfl := oi hx
 exact mid_h ⟨rfl, rfl, rfl, trivial⟩ hM
 refine gv rfl hg484 rfl (r_fld u59 rfl rfl sz3 rfl) <| gv rfl hg484 rfl (r_ldB u3 rfl rfl hM m0 rfl) <| gv rfl hg484 rfl (r_eql rfl rfl) <| wv rfl (p_f rfl hg484 rfl) ?_
 cases hx
 exact mid_h ⟨rfl, rfl, rfl, trivial⟩ hM
 replace hx := hx488
 refine wmv rfl rfl <| bs hx fun c494 hx hx499 => ?_
 refine wl_midH 4 [(93, (bv c494)), (1, (pt b256 0)), (3, (bv c457))] hM ?_ fun w500 hM => ?_
 refine cs2 hx (fun hg495 hx => ?_) (fun hg495 hx => ?_)
 refine gn hg495 rfl rfl <| gn hg495 rfl rfl <| gn hg495 rfl rfl <| wv rfl (p_t rfl hg495 rfl) ?_
 obtain rfl := oi hx
 exact mid_h ⟨rfl, rfl, rfl, trivial⟩ hM
 refine gv rfl hg495 rfl (r_fld u59 rfl rfl sz3 rfl) <| gv rfl hg495 rfl (r_ldB u3 rfl rfl hM m0 rfl) <| gv rfl hg495 rfl (r_eql rfl rfl) <| wv rfl (p_f rfl hg495 rfl) ?_
 cases hx
 exact mid_h ⟨rfl, rfl, rfl, trivial⟩ hM
 replace hx := hx499
 refine was rfl rfl <| wl_sq <| wc_sr <| wmv rfl rfl <| wmv rfl rfl <| bs hx fun c507 hx hx512 => ?_
 refine wl_midH 4 [(99, (bv c507)), (1, (pt b256 0)), (4, (bv c494))] hM ?_ fun w513 hM => ?_
 refine cs2 hx (fun hg508 hx => ?_) (fun hg508 hx => ?_)
 refine gn hg508 rfl rfl <| gn hg508 rfl rfl <| gn hg508 rfl rfl <| wv rfl (p_t rfl hg508 rfl) ?_
 obtain rfl := oi hx
 exact mid_h ⟨rfl, rfl, rfl, trivial⟩ hM
 refine gv rfl hg508 rfl (r_fld u59 rfl rfl sz3 rfl) <| gv rfl hg508 rfl (r_ldB u3 rfl rfl hM m0 rfl) <| gv rfl hg508 rfl (r_eql rfl rfl) <| wv rfl (p_f rfl hg508 rfl) ?_
 cases hx
 exact mid_h ⟨rfl, rfl, rfl, trivial⟩ hM
 replace hx := hx512
 refine wmv rfl rfl <| bs hx fun c518 hx hx530 => ?_
 refine wl_midH 7 [(107, (bv c518))] hM ?_ fun w531 hM => ?_
 refine cs2 hx (fun hg519 hx => ?_) (fun hg519 hx => ?_)
 refine gv rfl hg519 rfl (r_move rfl) <| gv rfl hg519 rfl (r_move rfl) <| bs hx fun c534 hx hx539 => ?_
 refine wl_midH 4 [(106, (bv c534)), (100, (bv c507))] hM ?_ fun w540 hM => ?_
 refine cs2 hx (fun hg535 hx => ?_) (fun hg535 hx => ?_)
 refine gn hg535 rfl rfl <| gn hg535 rfl rfl <| gn hg535 rfl rfl <| gv rfl hg519 rfl (p_t rfl hg535 rfl) ?_
 obtain rfl := oi hx
 exact mid_h ⟨rfl, rfl, trivial⟩ hM
 refine gv rfl hg535 rfl (r_fld u59 rfl rfl sz3 rfl) <| gv rfl hg535 rfl (r_ldB u3 rfl rfl hM m0 rfl) <| gv rfl hg535 rfl (r_eql rfl rfl) <| gv rfl hg519 rfl (p_f rfl hg535 rfl) ?_
 cases hx
 exact mid_h ⟨rfl, rfl, trivial⟩ hM
 replace hx := hx539
 refine wv rfl (p_t rfl hg519 rfl) ?_
 obtain rfl := oi hx
 exact mid_h ⟨rfl, trivial⟩ hM
 refine gn hg519 rfl rfl <| gn hg519 rfl rfl <| gs rfl rfl rfl <| gs rfl rfl rfl <| gs rfl rfl rfl <| gn hg519 rfl rfl <| wv rfl (p_f rfl hg519 rfl) ?_
 obtain rfl := oi hx
 exact mid_h ⟨rfl, trivial⟩ hM
 replace hx := hx530
 refine was rfl rfl <| wl_sq <| wc_ret ?_
 obtain rfl := oi hx
 exact fin_u [(bv c518)] hM ⟨rfl, trivial⟩ rfl

noncomputable def x_slices_EqualFunc_impl_Entry_impl_Entry_impl_Entry_impl_Entry_b0 (s2_ : List DEntry) (_s1_ : List DEntry) (k11 : Nat) (x90 : DEntry) : Option (Lr Unit (Sum Unit Unit)) :=
  xg (0 ≤ (k11 : Int) ∧ (k11 : Int) < (s2_.length : Int)) <| Option.bind (x_impl_EntrySame x90 (el s2_ k11)) fun r82 => bif !r82 then (some (Lr.out (Sum.inr (())))) else (some (Lr.go ()))
noncomputable def x_slices_EqualFunc_impl_Entry_impl_Entry_impl_Entry_impl_Entry_f0 (s2_ : List DEntry) (s1_ : List DEntry) (k11 : Nat) (_s91 : Unit) : Option (Lr Unit (Sum Unit Unit)) := x_slices_EqualFunc_impl_Entry_impl_Entry_impl_Entry_impl_Entry_b0 s2_ s1_ k11 (el s1_ k11)
noncomputable def x_slices_EqualFunc_impl_Entry_impl_Entry_impl_Entry_impl_Entry (s1_ : List DEntry) (s2_ : List DEntry) : Option Bool :=
  bif !decide ((s1_.length : Int) = (s2_.length : Int)) then (some false) else (Option.bind (eachN (x_slices_EqualFunc_impl_Entry_impl_Entry_impl_Entry_impl_Entry_f0 s2_ s1_) (fun (_s91 : Unit) => (Sum.inl () : Sum Unit Unit)) s1_.length 0 ()) fun (y92 : Sum Unit Unit) => Sum.elim (fun _y93 => some true) (fun _y94 => some false) y92)
theorem ct_slices_EqualFunc_impl_Entry_impl_Entry_impl_Entry_impl_Entry (w : World) (X S : Bs) (s1_ : List DEntry) (s_s1_ : Sv) (s2_ : List DEntry) (s_s2_ : Sv) (hS : SX X S w) (a_s1__0 : (cSl 3 fDEntry s1_).rd S w s_s1_.v) (a_s2__0 : (cSl 3 fDEntry s2_).rd S w s_s2_.v) (oL : Sep [] X w) {r : Bool} (hx : x_slices_EqualFunc_impl_Entry_impl_Entry_impl_Entry_impl_Entry s1_ s2_ = some r) :
 Ret Tryz.prog 154 [s_s1_.v, s_s2_.v, (.func (.func 155) #[] #[])] w (KV X S w (bv r)) := by
 unfold x_slices_EqualFunc_impl_Entry_impl_Entry_impl_Entry_impl_Entry at hx
 refine enter Tryz.func154 rfl Tryz.ntmps154 (by kernel_rfl) rfl ?_
 have hM := ((St.enter oL hS).addV a_s1__0).addV a_s2__0
 refine wc_sr <| was rfl rfl <| wl_sq <| wc_seq <| wc_sr <| wmv rfl rfl <| wv rfl (r_lenC u60 rfl (hM.seeR m1)) <| wmv rfl rfl <| wv rfl (r_lenC u60 rfl (hM.seeR m0)) <| wv rfl (r_neq rfl rfl) <| wl_sq ?_
 refine wcx hx rfl (fun hx => ?_) (fun hx => ?_)
 refine wc_sr <| was rfl rfl <| wl_sq <| wc_ret <| sq_ret ?_
 obtain rfl := oi hx
 exact fin_u [(bv false)] hM ⟨rfl, trivial⟩ rfl
 refine wc_skip <| sq_n <| wc_seq <| wc_sr <| wmv rfl rfl <| wv rfl (r_lenC u60 rfl (hM.seeR m1)) <| wmv rfl rfl <| wl_sq <| wc_block <| bs hx fun y107 hx hx108 => ?_
 have hl112 := Cs.le (hM.seeR m1)
 refine wc_loop (un fun (m109 : Nat) => fun (k110 : Nat) => [(1, s_s2_.v), (2, (.func (.func 155) #[] #[])), (15, s_s1_.v), (16, (iv (s1_.length : Int))), (17, (iv (k110 : Int)))]) (un fun (m109 : Nat) => fun (k110 : Nat) w' => St ⟨w, X, S⟩ [] [rV s_s2_.v (cSl 3 fDEntry s2_), rV s_s1_.v (cSl 3 fDEntry s1_)] w' ∧ eachN _ _ m109 k110 () = some y107 ∧ k110 + m109 = s1_.length) (fun p => p.1) (s1_.length, 0) ⟨rfl, rfl, rfl, rfl, rfl, trivial⟩ ⟨hM, hx, Nat.zero_add _⟩ ?_
 rintro ⟨m109, k110⟩ w113 ⟨hM, hx, hk111⟩
 refine wc_sr <| wv rfl (r_lss rfl rfl) <| wl_sq <| wc_seq ?_
 refine wc_cond rfl (fun hc115 => ?_) (fun hc115 => ?_)
 replace hc115 := of_decide_eq_true hc115
 obtain ⟨m116, z117, rfl, hk111, hx, hx118⟩ := eachN_step hx hk111 hc115
 unfold x_slices_EqualFunc_impl_Entry_impl_Entry_impl_Entry_impl_Entry_f0 x_slices_EqualFunc_impl_Entry_impl_Entry_impl_Entry_impl_Entry_b0 at hx
 try dsimp only at hx
 refine wc_skip <| sq_n <| wc_seq <| wc_block <| wc_sr <| wmv rfl rfl ?_
 have hi121 : k110 < s1_.length := by omega
 refine wv rfl (r_ixC u60 sz158 rfl rfl (hM.seeR m1) ⟨by omega, hc115⟩) ?_
 obtain ⟨s123, hM, hc124⟩ := hM.leaf (i := k110) (j := 2) m1 (fun _ => rfl) hi121 rfl
 refine wv rfl (r_ldC (o := k110 * 3) u158 sz158 rfl (us := [(iv ((el s1_ k110).client)), (iv ((el s1_ k110).seq)), s123.v]) rfl (hM.seeR m2) hi121 ⟨(Cs.get (i := k110) (j := 0) (hM.seeR m2) (fun _ => rfl) hi121 rfl), (Cs.get (i := k110) (j := 1) (hM.seeR m2) (fun _ => rfl) hi121 rfl), (hc124 _ (Rel.refl _)), trivial⟩) ?_
 refine w_ex rfl (x_alloc sz158 hM ?_); intro b126 w125 hR127 hM
 refine was rfl rfl ?_
 refine w_exu (x_stB #[(iv ((el s1_ k110).client)), (iv ((el s1_ k110).seq)), s123.v] sz158 rfl rfl rfl rfl rfl rfl hM ?_); intro w130 hM
 refine wl_sq <| wc_sr <| wmv rfl rfl <| wmv rfl rfl <| xgs hx fun hg136 hx => ?_
 have hi135 : k110 < s2_.length := by omega
 refine wv rfl (r_ixC u60 sz158 rfl rfl (hM.seeR m1) hg136) ?_
 obtain ⟨s138, hM, hc139⟩ := hM.leaf (i := k110) (j := 2) m1 (fun _ => rfl) hi135 rfl
 refine wv rfl (r_ldC (o := k110 * 3) u158 sz158 rfl (us := [(iv ((el s2_ k110).client)), (iv ((el s2_ k110).seq)), s138.v]) rfl (hM.seeR m2) hi135 ⟨(Cs.get (i := k110) (j := 0) (hM.seeR m2) (fun _ => rfl) hi135 rfl), (Cs.get (i := k110) (j := 1) (hM.seeR m2) (fun _ => rfl) hi135 rfl), (hc139 _ (Rel.refl _)), trivial⟩) ?_
 refine w_ex rfl (x_alloc sz158 hM ?_); intro b141 w140 hR142 hM
 refine w_exu (x_stB #[(iv ((el s2_ k110).client)), (iv ((el s2_ k110).seq)), s138.v] sz158 rfl rfl rfl rfl rfl rfl hM ?_); intro w144 hM
 refine wl_sq <| wc_sr <| wmv rfl rfl <| wv rfl (r_ldBS u158 sz158 rfl (us := [(iv ((el s1_ k110).client)), (iv ((el s1_ k110).seq)), s123.v]) rfl hM m1 rfl) <| wv rfl (r_ldBS u158 sz158 rfl (us := [(iv ((el s2_ k110).client)), (iv ((el s2_ k110).seq)), s138.v]) rfl hM m0 rfl) <| bs hx fun _ h150 hx => w_callv (cap := []) rfl rfl rfl (hM.callV fun X S oL hS hR hO => ct_impl_EntrySame _ X S (el s1_ k110) s123 (el s2_ k110) s138 hS (hR _ m1) (hR _ m0) oL h150) ?_
 rintro _ w151 ⟨rfl, hR152⟩
 have hM := hM.call hR152
 refine wv rfl (r_not rfl) <| wl_sq ?_
 refine wcx hx rfl (fun hx => ?_) (fun hx => ?_)
 refine wc_sr <| was rfl rfl <| wl_sq <| wc_ret <| bk_ret <| sq_ret <| lp1_ret ?_
 cases hx
 obtain rfl := oi hx118
 replace hx := hx108
 refine bk_ret <| sq_ret ?_
 obtain rfl := oi hx
 exact fin_u [(bv false)] hM ⟨rfl, trivial⟩ rfl
 refine wc_skip <| bk_n <| sq_n <| wc_region <| wv rfl (r_add rfl rfl ⟨by omega, by omega⟩) <| wmv rfl rfl <| wl_nil ?_
 cases hx
 replace hM := hM.t0
 have hM := hM.fewer (rsC m2 (rsC m3 rsN))
 replace hM : St ⟨w, X, S⟩ [] [rV s_s2_.v (cSl 3 fDEntry s2_), rV s_s1_.v (cSl 3 fDEntry s1_)] _ := hM
 exact lp_end (m116, k110 + 1) (Nat.lt_succ_self _) ⟨rfl, rfl, rfl, rfl, rfl, trivial⟩ ⟨hM, hx118, hk111⟩
 replace hc115 := of_decide_eq_false hc115
 obtain rfl := eachN_end hx hk111 hc115
 refine wc_exit <| sq_exit <| lp1_exit ?_
 replace hx := hx108
 refine bk_here <| sq_n <| wc_sr <| was rfl rfl <| wl_sq <| wc_ret ?_
 obtain rfl := oi hx
 exact fin_u [(bv true)] hM ⟨rfl, trivial⟩ rfl

noncomputable def x_impl_AnswerSame (a : DAnswer) (b : DAnswer) : Option Bool :=
  Option.bind (bif decide (a.code = b.code) then (some (decide (a.rev = b.rev))) else (some false)) fun c16 => Option.bind (bif c16 then (Option.bind (x_slices_Equal_int_int a.text b.text) fun r42 => some r42) else (some false)) fun c29 => Option.bind (bif c29 then (Option.bind (x_slices_EqualFunc_impl_Entry_impl_Entry_impl_Entry_impl_Entry a.list b.list) fun r59 => some r59) else (some false)) fun c46 => some c46
theorem ct_impl_AnswerSame (w : World) (X S : Bs) (a : DAnswer) (s_a_2 : Sv) (s_a_3 : Sv) (b : DAnswer) (s_b_2 : Sv) (s_b_3 : Sv) (hS : SX X S w) (a_a_2 : (cSl 1 fI a.text).rd S w s_a_2.v) (a_a_3 : (cSl 3 fDEntry a.list).rd S w s_a_3.v) (a_b_2 : (cSl 1 fI b.text).rd S w s_b_2.v) (a_b_3 : (cSl 3 fDEntry b.list).rd S w s_b_3.v) (oL : Sep [] X w) {r : Bool} (hx : x_impl_AnswerSame a b = some r) :
 Ret Tryz.prog 111 [(.agg #[(iv a.code), (iv a.rev), s_a_2.v, s_a_3.v]), (.agg #[(iv b.code), (iv b.rev), s_b_2.v, s_b_3.v])] w (KV X S w (bv r)) := by
 unfold x_impl_AnswerSame at hx
 refine enter Tryz.func111 rfl Tryz.ntmps111 (by kernel_rfl) rfl ?_
 have hM := ((((St.enter oL hS).addV a_a_2).addV a_a_3).addV a_b_2).addV a_b_3
 refine wc_sr ?_
 refine w_ex rfl (x_box rfl hM ?_); intro b64 w63 hR65 hM
 refine w_ex rfl (x_box rfl hM ?_); intro b68 w67 hR69 hM
 refine was rfl rfl <| wl_sq <| wc_sr <| wv rfl (r_fld u62 rfl rfl sz3 rfl) <| wv rfl (r_ldB u3 rfl rfl hM m1 rfl) <| wv rfl (r_fld u62 rfl rfl sz3 rfl) <| wv rfl (r_ldB u3 rfl rfl hM m0 rfl) <| wv rfl (r_eql rfl rfl) <| wmv rfl rfl <| bs hx fun c78 hx hx85 => ?_
 refine wl_midH 6 [(16, (bv c78)), (2, (pt b64 0)), (3, (pt b68 0))] hM ?_ fun w86 hM => ?_
 refine cs2 hx (fun hg79 hx => ?_) (fun hg79 hx => ?_)
 refine gv rfl hg79 rfl (r_fld u62 rfl rfl sz3 rfl) <| gv rfl hg79 rfl (r_ldB u3 rfl rfl hM m1 rfl) <| gv rfl hg79 rfl (r_fld u62 rfl rfl sz3 rfl) <| gv rfl hg79 rfl (r_ldB u3 rfl rfl hM m0 rfl) <| gv rfl hg79 rfl (r_eql rfl rfl) <| wv rfl (p_t rfl hg79 rfl) ?_
 cases hx
 exact mid_h ⟨rfl, rfl, rfl, trivial⟩ hM
 refine gn hg79 rfl rfl <| gn hg79 rfl rfl <| gn hg79 rfl rfl <| gn hg79 rfl rfl <| gn hg79 rfl rfl <| wv rfl (p_f rfl hg79 rfl) ?_
 obtain rfl := oi hx
 exact mid_h ⟨rfl, rfl, rfl, trivial⟩ hM
 replace hx := hx85
 refine wmv rfl rfl <| bs hx fun c93 hx hx102 => ?_
 refine wl_midH 6 [(23, (bv c93)), (2, (pt b64 0)), (3, (pt b68 0))] hM ?_ fun w103 hM => ?_
 refine cs2 hx (fun hg94 hx => ?_) (fun hg94 hx => ?_)
 refine gv rfl hg94 rfl (r_fld u62 rfl rfl sz26 rfl) <| gv rfl hg94 rfl (r_ldB u26 rfl rfl hM m1 rfl) <| gv rfl hg94 rfl (r_fld u62 rfl rfl sz26 rfl) <| gv rfl hg94 rfl (r_ldB u26 rfl rfl hM m0 rfl) <| bs hx fun _ h109 hx => g_cv hM hg94 rfl rfl rfl (fun X S oL hS hR hO => ct_slices_Equal_int_int _ X S a.text s_a_2 b.text s_b_2 hS (hR _ m3) (hR _ m1) oL h109) fun _ hM => wv rfl (p_t rfl hg94 rfl) ?_
 obtain rfl := oi hx
 exact mid_h ⟨rfl, rfl, rfl, trivial⟩ hM
 refine gn hg94 rfl rfl <| gn hg94 rfl rfl <| gn hg94 rfl rfl <| gn hg94 rfl rfl <| gn hg94 rfl rfl <| wv rfl (p_f rfl hg94 rfl) ?_
 obtain rfl := oi hx
 exact mid_h ⟨rfl, rfl, rfl, trivial⟩ hM
 replace hx := hx102
 refine wmv rfl rfl <| bs hx fun c112 hx hx121 => ?_
 refine wl_midH 6 [(30, (bv c112))] hM ?_ fun w122 hM => ?_
 refine cs2 hx (fun hg113 hx => ?_) (fun hg113 hx => ?_)
 refine gv rfl hg113 rfl (r_fld u62 rfl rfl sz60 rfl) <| gv rfl hg113 rfl (r_ldB u60 rfl rfl hM m1 rfl) <| gv rfl hg113 rfl (r_fld u62 rfl rfl sz60 rfl) <| gv rfl hg113 rfl (r_ldB u60 rfl rfl hM m0 rfl) <| bs hx fun _ h128 hx => g_cv hM hg113 rfl rfl rfl (fun X S oL hS hR hO => ct_slices_EqualFunc_impl_Entry_impl_Entry_impl_Entry_impl_Entry _ X S a.list s_a_3 b.list s_b_3 hS (hR _ m2) (hR _ m0) oL h128) fun _ hM => wv rfl (p_t rfl hg113 rfl) ?_
 obtain rfl := oi hx
 exact mid_h ⟨rfl, trivial⟩ hM
 refine gn hg113 rfl rfl <| gn hg113 rfl rfl <| gn hg113 rfl rfl <| gn hg113 rfl rfl <| gn hg113 rfl rfl <| wv rfl (p_f rfl hg113 rfl) ?_
 obtain rfl := oi hx
 exact mid_h ⟨rfl, trivial⟩ hM
 replace hx := hx121
 refine was rfl rfl <| wl_sq <| wc_ret ?_
 obtain rfl := oi hx
 exact fin_u [(bv c112)] hM ⟨rfl, trivial⟩ rfl

noncomputable def x_spec_AnswerSame_b0 (b : DAnswer) (_a : DAnswer) (k69 : Nat) (x136 : DEntry) : Option (Lr Unit (Sum Unit Unit)) :=
  xg (0 ≤ (k69 : Int) ∧ (k69 : Int) < (b.list.length : Int)) <| Option.bind (x_spec_EntrySame x136 (el b.list k69)) fun r127 => bif !r127 then (some (Lr.out (Sum.inr (())))) else (some (Lr.go ()))
noncomputable def x_spec_AnswerSame_f0 (b : DAnswer) (a : DAnswer) (k69 : Nat) (_s137 : Unit) : Option (Lr Unit (Sum Unit Unit)) := x_spec_AnswerSame_b0 b a k69 (el a.list k69)
noncomputable def x_spec_AnswerSame (a : DAnswer) (b : DAnswer) : Option Bool :=
  Option.bind (bif !decide (a.code = b.code) then (some true) else (some (!decide (a.rev = b.rev)))) fun c16 => Option.bind (bif c16 then (some true) else (Option.bind (x_spec_SignsSame a.text b.text) fun r43 => some (!r43))) fun c29 => Option.bind (bif c29 then (some true) else (some (!decide ((a.list.length : Int) = (b.list.length : Int))))) fun c48 => bif c48 then (some false) else (Option.bind (eachN (x_spec_AnswerSame_f0 b a) (fun (_s137 : Unit) => (Sum.inl () : Sum Unit Unit)) a.list.length 0 ()) fun (y138 : Sum Unit Unit) => Sum.elim (fun _y139 => some true) (fun _y140 => some false) y138)
theorem ct_spec_AnswerSame (w : World) (X S : Bs) (a : DAnswer) (s_a_2 : Sv) (s_a_3 : Sv) (b : DAnswer) (s_b_2 : Sv) (s_b_3 : Sv) (hS : SX X S w) (a_a_2 : (cSl 1 fI a.text).rd S w s_a_2.v) (a_a_3 : (cSl 3 fDEntry a.list).rd S w s_a_3.v) (a_b_2 : (cSl 1 fI b.text).rd S w s_b_2.v) (a_b_3 : (cSl 3 fDEntry b.list).rd S w s_b_3.v) (oL : Sep [] X w) {r : Bool} (hx : x_spec_AnswerSame a b = some r) :
 Ret Tryz.prog 95 [(.agg #[(iv a.code), (iv a.rev), s_a_2.v, s_a_3.v]), (.agg #[(iv b.code), (iv b.rev), s_b_2.v, s_b_3.v])] w (KV X S w (bv r)) := by
 unfold x_spec_AnswerSame at hx
 refine enter Tryz.func95 rfl Tryz.ntmps95 (by kernel_rfl) rfl ?_
 have hM := ((((St.enter oL hS).addV a_a_2).addV a_a_3).addV a_b_2).addV a_b_3
 refine wc_sr ?_
 refine w_ex rfl (x_box rfl hM ?_); intro b143 w142 hR144 hM
 refine w_ex rfl (x_box rfl hM ?_); intro b147 w146 hR148 hM
 refine was rfl rfl <| wl_sq <| wc_seq <| wc_sr <| wv rfl (r_fld u62 rfl rfl sz3 rfl) <| wv rfl (r_ldB u3 rfl rfl hM m1 rfl) <| wv rfl (r_fld u62 rfl rfl sz3 rfl) <| wv rfl (r_ldB u3 rfl rfl hM m0 rfl) <| wv rfl (r_neq rfl rfl) <| wmv rfl rfl <| bs hx fun c157 hx hx164 => ?_
 refine wl_midH 6 [(18, (bv c157)), (2, (pt b143 0)), (3, (pt b147 0))] hM ?_ fun w165 hM => ?_
 refine cs2 hx (fun hg158 hx => ?_) (fun hg158 hx => ?_)
 refine gn hg158 rfl rfl <| gn hg158 rfl rfl <| gn hg158 rfl rfl <| gn hg158 rfl rfl <| gn hg158 rfl rfl <| wv rfl (p_t rfl hg158 rfl) ?_
 obtain rfl := oi hx
 exact mid_h ⟨rfl, rfl, rfl, trivial⟩ hM
 refine gv rfl hg158 rfl (r_fld u62 rfl rfl sz3 rfl) <| gv rfl hg158 rfl (r_ldB u3 rfl rfl hM m1 rfl) <| gv rfl hg158 rfl (r_fld u62 rfl rfl sz3 rfl) <| gv rfl hg158 rfl (r_ldB u3 rfl rfl hM m0 rfl) <| gv rfl hg158 rfl (r_neq rfl rfl) <| wv rfl (p_f rfl hg158 rfl) ?_
 cases hx
 exact mid_h ⟨rfl, rfl, rfl, trivial⟩ hM
 replace hx := hx164
 refine wmv rfl rfl <| bs hx fun c172 hx hx182 => ?_
 refine wl_midH 7 [(26, (bv c172)), (2, (pt b143 0)), (3, (pt b147 0))] hM ?_ fun w183 hM => ?_
 refine cs2 hx (fun hg173 hx => ?_) (fun hg173 hx => ?_)
 refine gn hg173 rfl rfl <| gn hg173 rfl rfl <| gn hg173 rfl rfl <| gn hg173 rfl rfl <| gn hg173 rfl rfl <| gn hg173 rfl rfl <| wv rfl (p_t rfl hg173 rfl) ?_
 obtain rfl := oi hx
 exact mid_h ⟨rfl, rfl, rfl, trivial⟩ hM
 refine gv rfl hg173 rfl (r_fld u62 rfl rfl sz26 rfl) <| gv rfl hg173 rfl (r_ldB u26 rfl rfl hM m1 rfl) <| gv rfl hg173 rfl (r_fld u62 rfl rfl sz26 rfl) <| gv rfl hg173 rfl (r_ldB u26 rfl rfl hM m0 rfl) <| bs hx fun _ h189 hx => g_cv hM hg173 rfl rfl rfl (fun X S oL hS hR hO => ct_spec_SignsSame _ X S a.text s_a_2 b.text s_b_2 hS (hR _ m3) (hR _ m1) oL h189) fun _ hM => gv rfl hg173 rfl (r_not rfl) <| wv rfl (p_f rfl hg173 rfl) ?_
 cases hx
 exact mid_h ⟨rfl, rfl, rfl, trivial⟩ hM
 replace hx := hx182
 refine wmv rfl rfl <| bs hx fun c193 hx hx202 => ?_
 refine wl_midH 8 [(35, (bv c193)), (2, (pt b143 0)), (3, (pt b147 0))] hM ?_ fun w203 hM => ?_
 refine cs2 hx (fun hg194 hx => ?_) (fun hg194 hx => ?_)
 refine gn hg194 rfl rfl <| gn hg194 rfl rfl <| gn hg194 rfl rfl <| gn hg194 rfl rfl <| gn hg194 rfl rfl <| gn hg194 rfl rfl <| gn hg194 rfl rfl <| wv rfl (p_t rfl hg194 rfl) ?_
 obtain rfl := oi hx
 exact mid_h ⟨rfl, rfl, rfl, trivial⟩ hM
 refine gv rfl hg194 rfl (r_fld u62 rfl rfl sz60 rfl) <| gv rfl hg194 rfl (r_ldB u60 rfl rfl hM m1 rfl) <| gv rfl hg194 rfl (r_lenC u60 rfl (hM.seeR m2)) <| gv rfl hg194 rfl (r_fld u62 rfl rfl sz60 rfl) <| gv rfl hg194 rfl (r_ldB u60 rfl rfl hM m0 rfl) <| gv rfl hg194 rfl (r_lenC u60 rfl (hM.seeR m0)) <| gv rfl hg194 rfl (r_neq rfl rfl) <| wv rfl (p_f rfl hg194 rfl) ?_
 cases hx
 exact mid_h ⟨rfl, rfl, rfl, trivial⟩ hM
 replace hx := hx202
 refine wl_sq ?_
 refine wcx hx rfl (fun hx => ?_) (fun hx => ?_)
 refine wc_sr <| was rfl rfl <| wl_sq <| wc_ret <| sq_ret ?_
 obtain rfl := oi hx
 exact fin_u [(bv false)] hM ⟨rfl, trivial⟩ rfl
 refine wc_skip <| sq_n <| wc_seq <| wc_sr <| wv rfl (r_fld u62 rfl rfl sz60 rfl) <| wv rfl (r_ldB u60 rfl rfl hM m1 rfl) <| wv rfl (r_lenC u60 rfl (hM.seeR m2)) <| wmv rfl rfl <| wl_sq <| wc_block <| bs hx fun y217 hx hx218 => ?_
 replace hM := hM.t1
 have hM := hM.fewer (rsC m1 (rsC m0 (rsC m2 rsN)))
 replace hM : St ⟨w, X, S⟩ [oBox b147 #[(iv b.code), (iv b.rev), s_b_2.v, s_b_3.v] 62] [rV s_b_2.v (cSl 1 fI b.text), rV s_b_3.v (cSl 3 fDEntry b.list), rV s_a_3.v (cSl 3 fDEntry a.list)] _ := hM
 have hl222 := Cs.le (hM.seeR m2)
 refine wc_loop (un fun (m219 : Nat) => fun (k220 : Nat) => [(3, (pt b147 0)), (37, s_a_3.v), (38, (iv (a.list.length : Int))), (39, (iv (k220 : Int)))]) (un fun (m219 : Nat) => fun (k220 : Nat) w' => St ⟨w, X, S⟩ [oBox b147 #[(iv b.code), (iv b.rev), s_b_2.v, s_b_3.v] 62] [rV s_b_2.v (cSl 1 fI b.text), rV s_b_3.v (cSl 3 fDEntry b.list), rV s_a_3.v (cSl 3 fDEntry a.list)] w' ∧ eachN _ _ m219 k220 () = some y217 ∧ k220 + m219 = a.list.length) (fun p => p.1) (a.list.length, 0) ⟨rfl, rfl, rfl, rfl, trivial⟩ ⟨hM, hx, Nat.zero_add _⟩ ?_
 rintro ⟨m219, k220⟩ w223 ⟨hM, hx, hk221⟩
 refine wc_sr <| wv rfl (r_lss rfl rfl) <| wl_sq <| wc_seq ?_
 refine wc_cond rfl (fun hc225 => ?_) (fun hc225 => ?_)
 replace hc225 := of_decide_eq_true hc225
 obtain ⟨m226, z227, rfl, hk221, hx, hx228⟩ := eachN_step hx hk221 hc225
 unfold x_spec_AnswerSame_f0 x_spec_AnswerSame_b0 at hx
 try dsimp only at hx
 refine wc_skip <| sq_n <| wc_seq <| wc_block <| wc_sr <| wmv rfl rfl ?_
 have hi231 : k220 < a.list.length := by omega
 refine wv rfl (r_ixC u60 sz158 rfl rfl (hM.seeR m2) ⟨by omega, hc225⟩) ?_
 obtain ⟨s233, hM, hc234⟩ := hM.leaf (i := k220) (j := 2) m2 (fun _ => rfl) hi231 rfl
 refine wv rfl (r_ldC (o := k220 * 3) u158 sz158 rfl (us := [(iv ((el a.list k220).client)), (iv ((el a.list k220).seq)), s233.v]) rfl (hM.seeR m3) hi231 ⟨(Cs.get (i := k220) (j := 0) (hM.seeR m3) (fun _ => rfl) hi231 rfl), (Cs.get (i := k220) (j := 1) (hM.seeR m3) (fun _ => rfl) hi231 rfl), (hc234 _ (Rel.refl _)), trivial⟩) ?_
 refine w_ex rfl (x_alloc sz158 hM ?_); intro b236 w235 hR237 hM
 refine was rfl rfl ?_
 refine w_exu (x_stB #[(iv ((el a.list k220).client)), (iv ((el a.list k220).seq)), s233.v] sz158 rfl rfl rfl rfl rfl rfl hM ?_); intro w240 hM
 refine wl_sq <| wc_seq <| wc_draw [(0, 0), (1, 0), (2, 0), (3, 0), (4, 0), (5, 0), (6, 0), (7, 0)] Tryz_mixed (by kernel_rfl) rfl (by kernel_rfl) rfl <| ov rfl (fun w' h' => r_ldBS u158 sz158 rfl (us := [(iv ((el a.list k220).client)), (iv ((el a.list k220).seq)), s233.v]) rfl (hM.call h') m0 rfl) <| ov rfl (fun w' h' => r_fld u62 rfl rfl sz60 rfl) <| ov rfl (fun w' h' => r_ldB u60 rfl rfl (hM.call h') m1 rfl) <| omv rfl rfl <| xgs hx fun hg248 hx => ?_
 have hi247 : k220 < b.list.length := by omega
 refine ov rfl (fun w' h' => r_ixC u60 sz158 rfl rfl ((hM.call h').seeR m2) hg248) ?_
 obtain ⟨s250, hM, hc251⟩ := hM.leaf (i := k220) (j := 2) m2 (fun _ => rfl) hi247 rfl
 refine ov rfl (fun w' h' => r_ldC (o := k220 * 3) u158 sz158 rfl (us := [(iv ((el b.list k220).client)), (iv ((el b.list k220).seq)), s250.v]) rfl ((hM.call h').seeR m3) hi247 ⟨(Cs.get (i := k220) (j := 0) ((hM.call h').seeR m3) (fun _ => rfl) hi247 rfl), (Cs.get (i := k220) (j := 1) ((hM.call h').seeR m3) (fun _ => rfl) hi247 rfl), (hc251 w' h'), trivial⟩) <| bs hx fun _ h253 hx => oc rfl rfl (fun w' h' => (hM.call h').callV fun X S oL hS hR hO => ct_spec_EntrySame _ X S (el a.list k220) s233 (el b.list k220) s250 hS (hR _ m1) (hR _ m0) oL h253) <| ov rfl (fun w' h' => r_not rfl) <| o_nilM hM fun _ hM => sq_n ?_
 refine wcx hx rfl (fun hx => ?_) (fun hx => ?_)
 refine wc_sr <| was rfl rfl <| wl_sq <| wc_ret <| bk_ret <| sq_ret <| lp1_ret ?_
 cases hx
 obtain rfl := oi hx228
 replace hx := hx218
 refine bk_ret <| sq_ret ?_
 obtain rfl := oi hx
 exact fin_u [(bv false)] hM ⟨rfl, trivial⟩ rfl
 refine wc_skip <| bk_n <| sq_n <| wc_region <| wv rfl (r_add rfl rfl ⟨by omega, by omega⟩) <| wmv rfl rfl <| wl_nil ?_
 cases hx
 replace hM := hM.p1
 replace hM := hM.t1
 have hM := hM.fewer (rsC m2 (rsC m3 (rsC m4 rsN)))
 replace hM : St ⟨w, X, S⟩ [oBox b147 #[(iv b.code), (iv b.rev), s_b_2.v, s_b_3.v] 62] [rV s_b_2.v (cSl 1 fI b.text), rV s_b_3.v (cSl 3 fDEntry b.list), rV s_a_3.v (cSl 3 fDEntry a.list)] _ := hM
 exact lp_end (m226, k220 + 1) (Nat.lt_succ_self _) ⟨rfl, rfl, rfl, rfl, trivial⟩ ⟨hM, hx228, hk221⟩
 replace hc225 := of_decide_eq_false hc225
 obtain rfl := eachN_end hx hk221 hc225
 refine wc_exit <| sq_exit <| lp1_exit ?_
 replace hx := hx218
 refine bk_here <| sq_n <| wc_sr <| was rfl rfl <| wl_sq <| wc_ret ?_
 obtain rfl := oi hx
 exact fin_u [(bv true)] hM ⟨rfl, trivial⟩ rfl

noncomputable def x_impl_TaskOk (t : DTask) : Option Bool :=
  Option.bind (x_impl_CallOk t.c) fun r8 => Option.bind (bif !r8 then (some true) else (Option.bind (x_impl_within t.inv 0 1000000) fun r23 => some (!r23))) fun c13 => bif c13 then (some false) else (bif decide (t.pc = 0) then (bif decide (t.pc = 0) then (Option.bind (bif decide (t.pc = 1) then (Option.bind (x_impl_OnDoc t.c.kind) fun r48 => some (!r48)) else (some false)) fun c36 => Option.bind (bif c36 then (some true) else (Option.bind (bif decide (t.pc = 2) then (some (!decide (t.c.kind = 2))) else (some false)) fun c73 => some c73)) fun c53 => bif c53 then (some false) else (Option.bind (bif decide (t.lin = (-1)) then (some (decide (t.res = (-1)))) else (some false)) fun c88 => Option.bind (bif c88 then (Option.bind (x_impl_AnswerSame t.a (⟨0, 0, [], []⟩ : DAnswer)) fun r108 => some r108) else (some false)) fun c97 => some c97)) else (bif decide (t.pc = 3) then (bif decide (t.pc = 3) then (Option.bind (x_impl_AnswerSame t.a (⟨11, 0, [], []⟩ : DAnswer)) fun r117 => Option.bind (bif r117 then (some (decide (t.c.kind = 2))) else (some false)) fun c121 => Option.bind (bif c121 then (some (decide (t.lin = (-1)))) else (some false)) fun c132 => Option.bind (bif !c132 then (Option.bind (x_impl_within t.lin t.inv 1000000) fun r158 => some (!r158)) else (some false)) fun c144 => bif c144 then (some false) else (bif decide (t.pc = 3) then (some (decide (t.res = (-1)))) else (Option.bind (x_impl_within t.res (max t.inv t.lin) 1000000) fun r177 => some r177))) else (some false)) else (bif decide (t.pc = 4) then (Option.bind (x_impl_AnswerSame t.a (⟨11, 0, [], []⟩ : DAnswer)) fun r187 => Option.bind (bif r187 then (some (decide (t.c.kind = 2))) else (some false)) fun c191 => Option.bind (bif c191 then (some (decide (t.lin = (-1)))) else (some false)) fun c202 => Option.bind (bif !c202 then (Option.bind (x_impl_within t.lin t.inv 1000000) fun r228 => some (!r228)) else (some false)) fun c214 => bif c214 then (some false) else (bif decide (t.pc = 3) then (some (decide (t.res = (-1)))) else (Option.bind (x_impl_within t.res (max t.inv t.lin) 1000000) fun r247 => some r247))) else (some false)))) else (bif decide (t.pc = 1) then (bif decide (t.pc = 1) then (Option.bind (bif decide (t.pc = 1) then (Option.bind (x_impl_OnDoc t.c.kind) fun r270 => some (!r270)) else (some false)) fun c258 => Option.bind (bif c258 then (some true) else (Option.bind (bif decide (t.pc = 2) then (some (!decide (t.c.kind = 2))) else (some false)) fun c295 => some c295)) fun c275 => bif c275 then (some false) else (Option.bind (bif decide (t.lin = (-1)) then (some (decide (t.res = (-1)))) else (some false)) fun c310 => Option.bind (bif c310 then (Option.bind (x_impl_AnswerSame t.a (⟨0, 0, [], []⟩ : DAnswer)) fun r330 => some r330) else (some false)) fun c319 => some c319)) else (bif decide (t.pc = 3) then (bif decide (t.pc = 3) then (Option.bind (x_impl_AnswerSame t.a (⟨11, 0, [], []⟩ : DAnswer)) fun r339 => Option.bind (bif r339 then (some (decide (t.c.kind = 2))) else (some false)) fun c343 => Option.bind (bif c343 then (some (decide (t.lin = (-1)))) else (some false)) fun c354 => Option.bind (bif !c354 then (Option.bind (x_impl_within t.lin t.inv 1000000) fun r380 => some (!r380)) else (some false)) fun c366 => bif c366 then (some false) else (bif decide (t.pc = 3) then (some (decide (t.res = (-1)))) else (Option.bind (x_impl_within t.res (max t.inv t.lin) 1000000) fun r399 => some r399))) else (some false)) else (bif decide (t.pc = 4) then (Option.bind (x_impl_AnswerSame t.a (⟨11, 0, [], []⟩ : DAnswer)) fun r409 => Option.bind (bif r409 then (some (decide (t.c.kind = 2))) else (some false)) fun c413 => Option.bind (bif c413 then (some (decide (t.lin = (-1)))) else (some false)) fun c424 => Option.bind (bif !c424 then (Option.bind (x_impl_within t.lin t.inv 1000000) fun r450 => some (!r450)) else (some false)) fun c436 => bif c436 then (some false) else (bif decide (t.pc = 3) then (some (decide (t.res = (-1)))) else (Option.bind (x_impl_within t.res (max t.inv t.lin) 1000000) fun r469 => some r469))) else (some false)))) else (bif decide (t.pc = 2) then (Option.bind (bif decide (t.pc = 1) then (Option.bind (x_impl_OnDoc t.c.kind) fun r492 => some (!r492)) else (some false)) fun c480 => Option.bind (bif c480 then (some true) else (Option.bind (bif decide (t.pc = 2) then (some (!decide (t.c.kind = 2))) else (some false)) fun c517 => some c517)) fun c497 => bif c497 then (some false) else (Option.bind (bif decide (t.lin = (-1)) then (some (decide (t.res = (-1)))) else (some false)) fun c532 => Option.bind (bif c532 then (Option.bind (x_impl_AnswerSame t.a (⟨0, 0, [], []⟩ : DAnswer)) fun r552 => some r552) else (some false)) fun c541 => some c541)) else (bif decide (t.pc = 3) then (bif decide (t.pc = 3) then (Option.bind (x_impl_AnswerSame t.a (⟨11, 0, [], []⟩ : DAnswer)) fun r561 => Option.bind (bif r561 then (some (decide (t.c.kind = 2))) else (some false)) fun c565 => Option.bind (bif c565 then (some (decide (t.lin = (-1)))) else (some false)) fun c576 => Option.bind (bif !c576 then (Option.bind (x_impl_within t.lin t.inv 1000000) fun r602 => some (!r602)) else (some false)) fun c588 => bif c588 then (some false) else (bif decide (t.pc = 3) then (some (decide (t.res = (-1)))) else (Option.bind (x_impl_within t.res (max t.inv t.lin) 1000000) fun r621 => some r621))) else (some false)) else (bif decide (t.pc = 4) then (Option.bind (x_impl_AnswerSame t.a (⟨11, 0, [], []⟩ : DAnswer)) fun r631 => Option.bind (bif r631 then (some (decide (t.c.kind = 2))) else (some false)) fun c635 => Option.bind (bif c635 then (some (decide (t.lin = (-1)))) else (some false)) fun c646 => Option.bind (bif !c646 then (Option.bind (x_impl_within t.lin t.inv 1000000) fun r672 => some (!r672)) else (some false)) fun c658 => bif c658 then (some false) else (bif decide (t.pc = 3) then (some (decide (t.res = (-1)))) else (Option.bind (x_impl_within t.res (max t.inv t.lin) 1000000) fun r691 => some r691))) else (some false))))))
theorem ct_impl_TaskOk (w : World) (X S : Bs) (t : DTask) (s_t_5 : Sv) (s_t_6 : Sv) (s_t_13 : Sv) (s_t_14 : Sv) (hS : SX X S w) (a_t_5 : (cSl 3 fDPart t.c.o).rd S w s_t_5.v) (a_t_6 : (cSl 1 fI t.c.text).rd S w s_t_6.v) (a_t_13 : (cSl 1 fI t.a.text).rd S w s_t_13.v) (a_t_14 : (cSl 3 fDEntry t.a.list).rd S w s_t_14.v) (oL : Sep [] X w) {r : Bool} (hx : x_impl_TaskOk t = some r) :
 Ret Tryz.prog 60 [(.agg #[(iv t.c.kind), (.string t.c.doc), (iv t.c.client), (iv t.c.seq), (iv t.c.n), s_t_5.v, s_t_6.v, (iv t.pc), (iv t.inv), (iv t.lin), (iv t.res), (iv t.a.code), (iv t.a.rev), s_t_13.v, s_t_14.v])] w (KV X S w (bv r)) := by
 unfold x_impl_TaskOk at hx
 refine enter Tryz.func60 rfl Tryz.ntmps60 (by kernel_rfl) rfl ?_
 have hM := ((((St.enter oL hS).addV a_t_5).addV a_t_6).addV a_t_13).addV a_t_14
 refine wc_sr ?_
 refine w_ex rfl (x_box rfl hM ?_); intro b697 w696 hR698 hM
 refine was rfl rfl <| wl_sq <| wc_seq <| wc_sr <| wv rfl (r_fld u64 rfl rfl sz59 rfl) <| wv rfl (r_ldBS u59 sz59 rfl (us := [(iv t.c.kind), (.string t.c.doc), (iv t.c.client), (iv t.c.seq), (iv t.c.n), s_t_5.v, s_t_6.v]) rfl hM m0 rfl) <| bs hx fun _ h704 hx => w_cv hM rfl rfl (fun X S oL hS hR hO => ct_impl_CallOk _ X S t.c s_t_5 s_t_6 hS (hR _ m3) (hR _ m2) oL h704) fun _ hM => wv rfl (r_not rfl) <| wmv rfl rfl <| bs hx fun c708 hx hx716 => ?_
 refine wl_midH 5 [(13, (bv c708)), (1, (pt b697 0))] hM ?_ fun w717 hM => ?_
 refine cs2 hx (fun hg709 hx => ?_) (fun hg709 hx => ?_)
 refine gn hg709 rfl rfl <| gn hg709 rfl rfl <| gn hg709 rfl rfl <| gn hg709 rfl rfl <| wv rfl (p_t rfl hg709 rfl) ?_
 obtain rfl := oi hx
 exact mid_h ⟨rfl, rfl, trivial⟩ hM
 refine gv rfl hg709 rfl (r_fld u64 rfl rfl sz3 rfl) <| gv rfl hg709 rfl (r_ldB u3 rfl rfl hM m0 rfl) <| bs hx fun _ h721 hx => g_cv hM hg709 rfl rfl rfl (fun X S oL hS hR hO => ct_impl_within _ X S t.inv (0 : Int) (1000000 : Int) hS  oL h721) fun _ hM => gv rfl hg709 rfl (r_not rfl) <| wv rfl (p_f rfl hg709 rfl) ?_
 cases hx
 exact mid_h ⟨rfl, rfl, trivial⟩ hM
 replace hx := hx716
 refine wl_sq ?_
 refine wcx hx rfl (fun hx => ?_) (fun hx => ?_)
 refine wc_sr <| was rfl rfl <| wl_sq <| wc_ret <| sq_ret ?_
 obtain rfl := oi hx
 exact fin_u [(bv false)] hM ⟨rfl, trivial⟩ rfl
 refine wc_skip <| sq_n <| wc_seq <| wc_sr <| wv rfl (r_fld u64 rfl rfl sz3 rfl) <| wv rfl (r_ldB u3 rfl rfl hM m0 rfl) <| wl_sq <| wc_block <| wc_seq <| wc_sr <| wv rfl (r_eql rfl rfl) <| was rfl rfl <| wl_sq ?_
 refine wcx hx rfl (fun hx => ?_) (fun hx => ?_)
 refine wc_skip <| sq_n ?_
 refine wcx hx rfl (fun hx => ?_) (fun hx => ?_)
 refine wc_seq <| wc_sr <| wv rfl (r_fld u64 rfl rfl sz3 rfl) <| wv rfl (r_ldB u3 rfl rfl hM m0 rfl) <| wv rfl (r_eql rfl rfl) <| wmv rfl rfl <| bs hx fun c736 hx hx745 => ?_
 refine wl_midH 6 [(29, (bv c736)), (1, (pt b697 0))] hM ?_ fun w746 hM => ?_
 refine cs2 hx (fun hg737 hx => ?_) (fun hg737 hx => ?_)
 refine gv rfl hg737 rfl (r_fld u64 rfl rfl sz59 rfl) <| gv rfl hg737 rfl (r_fld u59 rfl rfl sz3 rfl) <| gv rfl hg737 rfl (r_ldB u3 rfl rfl hM m0 rfl) <| bs hx fun _ h751 hx => g_cv hM hg737 rfl rfl rfl (fun X S oL hS hR hO => ct_impl_OnDoc _ X S t.c.kind hS  oL h751) fun _ hM => gv rfl hg737 rfl (r_not rfl) <| wv rfl (p_t rfl hg737 rfl) ?_
 cases hx
 exact mid_h ⟨rfl, rfl, trivial⟩ hM
 refine gn hg737 rfl rfl <| gn hg737 rfl rfl <| gn hg737 rfl rfl <| gn hg737 rfl rfl <| gn hg737 rfl rfl <| wv rfl (p_f rfl hg737 rfl) ?_
 obtain rfl := oi hx
 exact mid_h ⟨rfl, rfl, trivial⟩ hM
 replace hx := hx745
 refine wmv rfl rfl <| bs hx fun c755 hx hx771 => ?_
 refine wl_midH 10 [(40, (bv c755)), (1, (pt b697 0))] hM ?_ fun w772 hM => ?_
 refine cs2 hx (fun hg756 hx => ?_) (fun hg756 hx => ?_)
 refine gn hg756 rfl rfl <| gn hg756 rfl rfl <| gn hg756 rfl rfl <| gn hg756 rfl rfl <| gs rfl rfl rfl <| gs rfl rfl rfl <| gs rfl rfl rfl <| gs rfl rfl rfl <| gn hg756 rfl rfl <| wv rfl (p_t rfl hg756 rfl) ?_
 obtain rfl := oi hx
 exact mid_h ⟨rfl, rfl, trivial⟩ hM
 refine gv rfl hg756 rfl (r_fld u64 rfl rfl sz3 rfl) <| gv rfl hg756 rfl (r_ldB u3 rfl rfl hM m0 rfl) <| gv rfl hg756 rfl (r_eql rfl rfl) <| gv rfl hg756 rfl (r_move rfl) <| bs hx fun c777 hx hx783 => ?_
 refine wl_midH 5 [(39, (bv c777)), (1, (pt b697 0)), (30, (bv c736))] hM ?_ fun w784 hM => ?_
 refine cs2 hx (fun hg778 hx => ?_) (fun hg778 hx => ?_)
 refine gv rfl hg778 rfl (r_fld u64 rfl rfl sz59 rfl) <| gv rfl hg778 rfl (r_fld u59 rfl rfl sz3 rfl) <| gv rfl hg778 rfl (r_ldB u3 rfl rfl hM m0 rfl) <| gv rfl hg778 rfl (r_neq rfl rfl) <| gv rfl hg756 rfl (p_t rfl hg778 rfl) ?_
 cases hx
 exact mid_h ⟨rfl, rfl, rfl, trivial⟩ hM
 refine gn hg778 rfl rfl <| gn hg778 rfl rfl <| gn hg778 rfl rfl <| gn hg778 rfl rfl <| gv rfl hg756 rfl (p_f rfl hg778 rfl) ?_
 obtain rfl := oi hx
 exact mid_h ⟨rfl, rfl, rfl, trivial⟩ hM
 replace hx := hx783
 refine wv rfl (p_f rfl hg756 rfl) ?_
 obtain rfl := oi hx
 exact mid_h ⟨rfl, rfl, trivial⟩ hM
 replace hx := hx771
 refine wl_sq ?_
 refine wcx hx rfl (fun hx => ?_) (fun hx => ?_)
 refine wc_sr <| was rfl rfl <| wl_sq <| wc_ret <| sq_ret <| bk_ret <| sq_ret ?_
 obtain rfl := oi hx
 exact fin_u [(bv false)] hM ⟨rfl, trivial⟩ rfl
 refine wc_skip <| sq_n <| wc_sr <| wv rfl (r_fld u64 rfl rfl sz3 rfl) <| wv rfl (r_ldB u3 rfl rfl hM m0 rfl) <| wv rfl (r_eql rfl rfl) <| wmv rfl rfl <| bs hx fun c795 hx hx800 => ?_
 refine wl_midH 4 [(48, (bv c795)), (1, (pt b697 0))] hM ?_ fun w801 hM => ?_
 refine cs2 hx (fun hg796 hx => ?_) (fun hg796 hx => ?_)
 refine gv rfl hg796 rfl (r_fld u64 rfl rfl sz3 rfl) <| gv rfl hg796 rfl (r_ldB u3 rfl rfl hM m0 rfl) <| gv rfl hg796 rfl (r_eql rfl rfl) <| wv rfl (p_t rfl hg796 rfl) ?_
 cases hx
 exact mid_h ⟨rfl, rfl, trivial⟩ hM
 refine gn hg796 rfl rfl <| gn hg796 rfl rfl <| gn hg796 rfl rfl <| wv rfl (p_f rfl hg796 rfl) ?_
 obtain rfl := oi hx
 exact mid_h ⟨rfl, rfl, trivial⟩ hM
 replace hx := hx800
 refine wmv rfl rfl <| bs hx fun c806 hx hx814 => ?_
 refine wl_midH 5 [(54, (bv c806))] hM ?_ fun w815 hM => ?_
 refine cs2 hx (fun hg807 hx => ?_) (fun hg807 hx => ?_)
 refine gv rfl hg807 rfl (r_fld u64 rfl rfl sz62 rfl) <| gv rfl hg807 rfl (r_ldBS u62 sz62 rfl (us := [(iv t.a.code), (iv t.a.rev), s_t_13.v, s_t_14.v]) rfl hM m0 rfl) <| gv rfl hg807 rfl (r_build (cells := #[(iv 0), (iv 0), (.slice none 0 0), (.slice none 0 0)]) rfl (by kernel_rfl)) <| bs hx fun _ h820 hx => g_cv hM hg807 rfl rfl rfl (fun X S oL hS hR hO => ct_impl_AnswerSame _ X S t.a s_t_13 s_t_14 (⟨0, 0, [], []⟩ : DAnswer) nS nS hS (hR _ m1) (hR _ m0) (rd_nil _ _) (rd_nil _ _) oL h820) fun _ hM => wv rfl (p_t rfl hg807 rfl) ?_
 obtain rfl := oi hx
 exact mid_h ⟨rfl, trivial⟩ hM
 refine gn hg807 rfl rfl <| gn hg807 rfl rfl <| gn hg807 rfl rfl <| gn hg807 rfl rfl <| wv rfl (p_f rfl hg807 rfl) ?_
 obtain rfl := oi hx
 exact mid_h ⟨rfl, trivial⟩ hM
 replace hx := hx814
 refine was rfl rfl <| wl_sq <| wc_ret <| bk_ret <| sq_ret ?_
 obtain rfl := oi hx
 exact fin_u [(bv c806)] hM ⟨rfl, trivial⟩ rfl
 refine wc_seq <| wc_sr <| wv rfl (r_eql rfl rfl) <| was rfl rfl <| wl_sq ?_
 refine wcx hx rfl (fun hx => ?_) (fun hx => ?_)
 refine wc_skip <| sq_n ?_
 refine wcx hx rfl (fun hx => ?_) (fun hx => ?_)
 refine wc_sr <| wv rfl (r_fld u64 rfl rfl sz62 rfl) <| wv rfl (r_ldBS u62 sz62 rfl (us := [(iv t.a.code), (iv t.a.rev), s_t_13.v, s_t_14.v]) rfl hM m0 rfl) <| wv rfl (r_build (cells := #[(iv 11), (iv 0), (.slice none 0 0), (.slice none 0 0)]) rfl (by kernel_rfl)) <| bs hx fun _ h831 hx => w_cv hM rfl rfl (fun X S oL hS hR hO => ct_impl_AnswerSame _ X S t.a s_t_13 s_t_14 (⟨11, 0, [], []⟩ : DAnswer) nS nS hS (hR _ m1) (hR _ m0) (rd_nil _ _) (rd_nil _ _) oL h831) fun _ hM => wmv rfl rfl <| bs hx fun c834 hx hx840 => ?_
 refine wl_midH 5 [(67, (bv c834)), (1, (pt b697 0))] hM ?_ fun w841 hM => ?_
 refine cs2 hx (fun hg835 hx => ?_) (fun hg835 hx => ?_)
 refine gv rfl hg835 rfl (r_fld u64 rfl rfl sz59 rfl) <| gv rfl hg835 rfl (r_fld u59 rfl rfl sz3 rfl) <| gv rfl hg835 rfl (r_ldB u3 rfl rfl hM m0 rfl) <| gv rfl hg835 rfl (r_eql rfl rfl) <| wv rfl (p_t rfl hg835 rfl) ?_
 cases hx
 exact mid_h ⟨rfl, rfl, trivial⟩ hM
 refine gn hg835 rfl rfl <| gn hg835 rfl rfl <| gn hg835 rfl rfl <| gn hg835 rfl rfl <| wv rfl (p_f rfl hg835 rfl) ?_
 obtain rfl := oi hx
 exact mid_h ⟨rfl, rfl, trivial⟩ hM
 replace hx := hx840
 refine wmv rfl rfl <| bs hx fun c847 hx hx852 => ?_
 refine wl_midH 4 [(72, (bv c847)), (1, (pt b697 0))] hM ?_ fun w853 hM => ?_
 refine cs2 hx (fun hg848 hx => ?_) (fun hg848 hx => ?_)
 refine gv rfl hg848 rfl (r_fld u64 rfl rfl sz3 rfl) <| gv rfl hg848 rfl (r_ldB u3 rfl rfl hM m0 rfl) <| gv rfl hg848 rfl (r_eql rfl rfl) <| wv rfl (p_t rfl hg848 rfl) ?_
 cases hx
 exact mid_h ⟨rfl, rfl, trivial⟩ hM
 refine gn hg848 rfl rfl <| gn hg848 rfl rfl <| gn hg848 rfl rfl <| wv rfl (p_f rfl hg848 rfl) ?_
 obtain rfl := oi hx
 exact mid_h ⟨rfl, rfl, trivial⟩ hM
 replace hx := hx852
 refine was rfl rfl <| wl_sq <| wc_seq <| wc_sr <| wmv rfl rfl <| wv rfl (r_not rfl) <| wmv rfl rfl <| bs hx fun c861 hx hx871 => ?_
 refine wl_midH 7 [(82, (bv c861)), (1, (pt b697 0))] hM ?_ fun w872 hM => ?_
 refine cs2 hx (fun hg862 hx => ?_) (fun hg862 hx => ?_)
 refine gv rfl hg862 rfl (r_fld u64 rfl rfl sz3 rfl) <| gv rfl hg862 rfl (r_ldB u3 rfl rfl hM m0 rfl) <| gv rfl hg862 rfl (r_fld u64 rfl rfl sz3 rfl) <| gv rfl hg862 rfl (r_ldB u3 rfl rfl hM m0 rfl) <| bs hx fun _ h878 hx => g_cv hM hg862 rfl rfl rfl (fun X S oL hS hR hO => ct_impl_within _ X S t.lin t.inv (1000000 : Int) hS  oL h878) fun _ hM => gv rfl hg862 rfl (r_not rfl) <| wv rfl (p_t rfl hg862 rfl) ?_
 cases hx
 exact mid_h ⟨rfl, rfl, trivial⟩ hM
 refine gn hg862 rfl rfl <| gn hg862 rfl rfl <| gn hg862 rfl rfl <| gn hg862 rfl rfl <| gn hg862 rfl rfl <| gn hg862 rfl rfl <| wv rfl (p_f rfl hg862 rfl) ?_
 obtain rfl := oi hx
 exact mid_h ⟨rfl, rfl, trivial⟩ hM
 replace hx := hx871
 refine wl_sq ?_
 refine wcx hx rfl (fun hx => ?_) (fun hx => ?_)
 refine wc_sr <| was rfl rfl <| wl_sq <| wc_ret <| sq_ret <| bk_ret <| sq_ret ?_
 obtain rfl := oi hx
 exact fin_u [(bv false)] hM ⟨rfl, trivial⟩ rfl
 refine wc_skip <| sq_n <| wc_seq <| wc_sr <| wv rfl (r_fld u64 rfl rfl sz3 rfl) <| wv rfl (r_ldB u3 rfl rfl hM m0 rfl) <| wv rfl (r_eql rfl rfl) <| wl_sq ?_
 refine wcx hx rfl (fun hx => ?_) (fun hx => ?_)
 refine wc_sr <| wv rfl (r_fld u64 rfl rfl sz3 rfl) <| wv rfl (r_ldB u3 rfl rfl hM m0 rfl) <| wv rfl (r_eql rfl rfl) <| was rfl rfl <| wl_sq <| wc_ret <| sq_ret <| bk_ret <| sq_ret ?_
 obtain rfl := oi hx
 exact fin_u [(bv (decide (t.res = (-1))))] hM ⟨rfl, trivial⟩ rfl
 refine wc_skip <| sq_n <| wc_sr <| wv rfl (r_fld u64 rfl rfl sz3 rfl) <| wv rfl (r_ldB u3 rfl rfl hM m0 rfl) <| wv rfl (r_fld u64 rfl rfl sz3 rfl) <| wv rfl (r_ldB u3 rfl rfl hM m0 rfl) <| wv rfl (r_fld u64 rfl rfl sz3 rfl) <| wv rfl (r_ldB u3 rfl rfl hM m0 rfl) <| wv rfl (r_max u3 rfl rfl) <| bs hx fun r898 h899 hx => w_cv hM rfl rfl (fun X S oL hS hR hO => ct_impl_within _ X S t.res (max t.inv t.lin) (1000000 : Int) hS  oL h899) fun _ hM => was rfl rfl <| wl_sq ?_
 refine wc_ret <| bk_ret <| sq_ret ?_
 obtain rfl := oi hx
 exact fin_u [(bv r898)] hM ⟨rfl, trivial⟩ rfl
 refine wc_skip <| bk_n <| sq_n <| wc_sr <| was rfl rfl <| wl_sq <| wc_ret ?_
 obtain rfl := oi hx
 exact fin_u [(bv false)] hM ⟨rfl, trivial⟩ rfl
 refine wc_region <| wv rfl (r_eql rfl rfl) <| was rfl rfl <| wl_sq ?_
 refine wcx hx rfl (fun hx => ?_) (fun hx => ?_)
 refine wc_sr <| wv rfl (r_fld u64 rfl rfl sz62 rfl) <| wv rfl (r_ldBS u62 sz62 rfl (us := [(iv t.a.code), (iv t.a.rev), s_t_13.v, s_t_14.v]) rfl hM m0 rfl) <| wv rfl (r_build (cells := #[(iv 11), (iv 0), (.slice none 0 0), (.slice none 0 0)]) rfl (by kernel_rfl)) <| bs hx fun _ h910 hx => w_cv hM rfl rfl (fun X S oL hS hR hO => ct_impl_AnswerSame _ X S t.a s_t_13 s_t_14 (⟨11, 0, [], []⟩ : DAnswer) nS nS hS (hR _ m1) (hR _ m0) (rd_nil _ _) (rd_nil _ _) oL h910) fun _ hM => wmv rfl rfl <| bs hx fun c913 hx hx919 => ?_
 refine wl_midH 5 [(67, (bv c913)), (1, (pt b697 0))] hM ?_ fun w920 hM => ?_
 refine cs2 hx (fun hg914 hx => ?_) (fun hg914 hx => ?_)
 refine gv rfl hg914 rfl (r_fld u64 rfl rfl sz59 rfl) <| gv rfl hg914 rfl (r_fld u59 rfl rfl sz3 rfl) <| gv rfl hg914 rfl (r_ldB u3 rfl rfl hM m0 rfl) <| gv rfl hg914 rfl (r_eql rfl rfl) <| wv rfl (p_t rfl hg914 rfl) ?_
 cases hx
 exact mid_h ⟨rfl, rfl, trivial⟩ hM
 refine gn hg914 rfl rfl <| gn hg914 rfl rfl <| gn hg914 rfl rfl <| gn hg914 rfl rfl <| wv rfl (p_f rfl hg914 rfl) ?_
 obtain rfl := oi hx
 exact mid_h ⟨rfl, rfl, trivial⟩ hM
 replace hx := hx919
 refine wmv rfl rfl <| bs hx fun c926 hx hx931 => ?_
 refine wl_midH 4 [(72, (bv c926)), (1, (pt b697 0))] hM ?_ fun w932 hM => ?_
 refine cs2 hx (fun hg927 hx => ?_) (fun hg927 hx => ?_)
 refine gv rfl hg927 rfl (r_fld u64 rfl rfl sz3 rfl) <| gv rfl hg927 rfl (r_ldB u3 rfl rfl hM m0 rfl) <| gv rfl hg927 rfl (r_eql rfl rfl) <| wv rfl (p_t rfl hg927 rfl) ?_
 cases hx
 exact mid_h ⟨rfl, rfl, trivial⟩ hM
 refine gn hg927 rfl rfl <| gn hg927 rfl rfl <| gn hg927 rfl rfl <| wv rfl (p_f rfl hg927 rfl) ?_
 obtain rfl := oi hx
 exact mid_h ⟨rfl, rfl, trivial⟩ hM
 replace hx := hx931
 refine was rfl rfl <| wl_sq <| wc_seq <| wc_sr <| wmv rfl rfl <| wv rfl (r_not rfl) <| wmv rfl rfl <| bs hx fun c940 hx hx950 => ?_
 refine wl_midH 7 [(82, (bv c940)), (1, (pt b697 0))] hM ?_ fun w951 hM => ?_
 refine cs2 hx (fun hg941 hx => ?_) (fun hg941 hx => ?_)
 refine gv rfl hg941 rfl (r_fld u64 rfl rfl sz3 rfl) <| gv rfl hg941 rfl (r_ldB u3 rfl rfl hM m0 rfl) <| gv rfl hg941 rfl (r_fld u64 rfl rfl sz3 rfl) <| gv rfl hg941 rfl (r_ldB u3 rfl rfl hM m0 rfl) <| bs hx fun _ h957 hx => g_cv hM hg941 rfl rfl rfl (fun X S oL hS hR hO => ct_impl_within _ X S t.lin t.inv (1000000 : Int) hS  oL h957) fun _ hM => gv rfl hg941 rfl (r_not rfl) <| wv rfl (p_t rfl hg941 rfl) ?_
 cases hx
 exact mid_h ⟨rfl, rfl, trivial⟩ hM
 refine gn hg941 rfl rfl <| gn hg941 rfl rfl <| gn hg941 rfl rfl <| gn hg941 rfl rfl <| gn hg941 rfl rfl <| gn hg941 rfl rfl <| wv rfl (p_f rfl hg941 rfl) ?_
 obtain rfl := oi hx
 exact mid_h ⟨rfl, rfl, trivial⟩ hM
 replace hx := hx950
 refine wl_sq ?_
 refine wcx hx rfl (fun hx => ?_) (fun hx => ?_)
 refine wc_sr <| was rfl rfl <| wl_sq <| wc_ret <| sq_ret <| bk_ret <| sq_ret ?_
 obtain rfl := oi hx
 exact fin_u [(bv false)] hM ⟨rfl, trivial⟩ rfl
 refine wc_skip <| sq_n <| wc_seq <| wc_sr <| wv rfl (r_fld u64 rfl rfl sz3 rfl) <| wv rfl (r_ldB u3 rfl rfl hM m0 rfl) <| wv rfl (r_eql rfl rfl) <| wl_sq ?_
 refine wcx hx rfl (fun hx => ?_) (fun hx => ?_)
 refine wc_sr <| wv rfl (r_fld u64 rfl rfl sz3 rfl) <| wv rfl (r_ldB u3 rfl rfl hM m0 rfl) <| wv rfl (r_eql rfl rfl) <| was rfl rfl <| wl_sq <| wc_ret <| sq_ret <| bk_ret <| sq_ret ?_
 obtain rfl := oi hx
 exact fin_u [(bv (decide (t.res = (-1))))] hM ⟨rfl, trivial⟩ rfl
 refine wc_skip <| sq_n <| wc_sr <| wv rfl (r_fld u64 rfl rfl sz3 rfl) <| wv rfl (r_ldB u3 rfl rfl hM m0 rfl) <| wv rfl (r_fld u64 rfl rfl sz3 rfl) <| wv rfl (r_ldB u3 rfl rfl hM m0 rfl) <| wv rfl (r_fld u64 rfl rfl sz3 rfl) <| wv rfl (r_ldB u3 rfl rfl hM m0 rfl) <| wv rfl (r_max u3 rfl rfl) <| bs hx fun r977 h978 hx => w_cv hM rfl rfl (fun X S oL hS hR hO => ct_impl_within _ X S t.res (max t.inv t.lin) (1000000 : Int) hS  oL h978) fun _ hM => was rfl rfl <| wl_sq ?_
 refine wc_ret <| bk_ret <| sq_ret ?_
 obtain rfl := oi hx
 exact fin_u [(bv r977)] hM ⟨rfl, trivial⟩ rfl
 refine wc_skip <| bk_n <| sq_n <| wc_sr <| was rfl rfl <| wl_sq <| wc_ret ?_
 obtain rfl := oi hx
 exact fin_u [(bv false)] hM ⟨rfl, trivial⟩ rfl
 refine wc_sr <| wv rfl (r_eql rfl rfl) <| was rfl rfl <| wl_sq ?_
 refine wcx hx rfl (fun hx => ?_) (fun hx => ?_)
 refine wc_skip <| sq_n ?_
 refine wcx hx rfl (fun hx => ?_) (fun hx => ?_)
 refine wc_seq <| wc_sr <| wv rfl (r_fld u64 rfl rfl sz3 rfl) <| wv rfl (r_ldB u3 rfl rfl hM m0 rfl) <| wv rfl (r_eql rfl rfl) <| wmv rfl rfl <| bs hx fun c990 hx hx999 => ?_
 refine wl_midH 6 [(29, (bv c990)), (1, (pt b697 0))] hM ?_ fun w1000 hM => ?_
 refine cs2 hx (fun hg991 hx => ?_) (fun hg991 hx => ?_)
 refine gv rfl hg991 rfl (r_fld u64 rfl rfl sz59 rfl) <| gv rfl hg991 rfl (r_fld u59 rfl rfl sz3 rfl) <| gv rfl hg991 rfl (r_ldB u3 rfl rfl hM m0 rfl) <| bs hx fun _ h1005 hx => g_cv hM hg991 rfl rfl rfl (fun X S oL hS hR hO => ct_impl_OnDoc _ X S t.c.kind hS  oL h1005) fun _ hM => gv rfl hg991 rfl (r_not rfl) <| wv rfl (p_t rfl hg991 rfl) ?_
 cases hx
 exact mid_h ⟨rfl, rfl, trivial⟩ hM
 refine gn hg991 rfl rfl <| gn hg991 rfl rfl <| gn hg991 rfl rfl <| gn hg991 rfl rfl <| gn hg991 rfl rfl <| wv rfl (p_f rfl hg991 rfl) ?_
 obtain rfl := oi hx
 exact mid_h ⟨rfl, rfl, trivial⟩ hM
 replace hx := hx999
 refine wmv rfl rfl <| bs hx fun c1009 hx hx1025 => ?_
 refine wl_midH 10 [(40, (bv c1009)), (1, (pt b697 0))] hM ?_ fun w1026 hM => ?_
 refine cs2 hx (fun hg1010 hx => ?_) (fun hg1010 hx => ?_)
 refine gn hg1010 rfl rfl <| gn hg1010 rfl rfl <| gn hg1010 rfl rfl <| gn hg1010 rfl rfl <| gs rfl rfl rfl <| gs rfl rfl rfl <| gs rfl rfl rfl <| gs rfl rfl rfl <| gn hg1010 rfl rfl <| wv rfl (p_t rfl hg1010 rfl) ?_
 obtain rfl := oi hx
 exact mid_h ⟨rfl, rfl, trivial⟩ hM
 refine gv rfl hg1010 rfl (r_fld u64 rfl rfl sz3 rfl) <| gv rfl hg1010 rfl (r_ldB u3 rfl rfl hM m0 rfl) <| gv rfl hg1010 rfl (r_eql rfl rfl) <| gv rfl hg1010 rfl (r_move rfl) <| bs hx fun c1031 hx hx1037 => ?_
 refine wl_midH 5 [(39, (bv c1031)), (1, (pt b697 0)), (30, (bv c990))] hM ?_ fun w1038 hM => ?_
 refine cs2 hx (fun hg1032 hx => ?_) (fun hg1032 hx => ?_)
 refine gv rfl hg1032 rfl (r_fld u64 rfl rfl sz59 rfl) <| gv rfl hg1032 rfl (r_fld u59 rfl rfl sz3 rfl) <| gv rfl hg1032 rfl (r_ldB u3 rfl rfl hM m0 rfl) <| gv rfl hg1032 rfl (r_neq rfl rfl) <| gv rfl hg1010 rfl (p_t rfl hg1032 rfl) ?_
 cases hx
 exact mid_h ⟨rfl, rfl, rfl, trivial⟩ hM
 refine gn hg1032 rfl rfl <| gn hg1032 rfl rfl <| gn hg1032 rfl rfl <| gn hg1032 rfl rfl <| gv rfl hg1010 rfl (p_f rfl hg1032 rfl) ?_
 obtain rfl := oi hx
 exact mid_h ⟨rfl, rfl, rfl, trivial⟩ hM
 replace hx := hx1037
 refine wv rfl (p_f rfl hg1010 rfl) ?_
 obtain rfl := oi hx
 exact mid_h ⟨rfl, rfl, trivial⟩ hM
 replace hx := hx1025
 refine wl_sq ?_
 refine wcx hx rfl (fun hx => ?_) (fun hx => ?_)
 refine wc_sr <| was rfl rfl <| wl_sq <| wc_ret <| sq_ret <| bk_ret <| sq_ret ?_
 obtain rfl := oi hx
 exact fin_u [(bv false)] hM ⟨rfl, trivial⟩ rfl
 refine wc_skip <| sq_n <| wc_sr <| wv rfl (r_fld u64 rfl rfl sz3 rfl) <| wv rfl (r_ldB u3 rfl rfl hM m0 rfl) <| wv rfl (r_eql rfl rfl) <| wmv rfl rfl <| bs hx fun c1049 hx hx1054 => ?_
 refine wl_midH 4 [(48, (bv c1049)), (1, (pt b697 0))] hM ?_ fun w1055 hM => ?_
 refine cs2 hx (fun hg1050 hx => ?_) (fun hg1050 hx => ?_)
 refine gv rfl hg1050 rfl (r_fld u64 rfl rfl sz3 rfl) <| gv rfl hg1050 rfl (r_ldB u3 rfl rfl hM m0 rfl) <| gv rfl hg1050 rfl (r_eql rfl rfl) <| wv rfl (p_t rfl hg1050 rfl) ?_
 cases hx
 exact mid_h ⟨rfl, rfl, trivial⟩ hM
 refine gn hg1050 rfl rfl <| gn hg1050 rfl rfl <| gn hg1050 rfl rfl <| wv rfl (p_f rfl hg1050 rfl) ?_
 obtain rfl := oi hx
 exact mid_h ⟨rfl, rfl, trivial⟩ hM
 replace hx := hx1054
 refine wmv rfl rfl <| bs hx fun c1060 hx hx1068 => ?_
 refine wl_midH 5 [(54, (bv c1060))] hM ?_ fun w1069 hM => ?_
 refine cs2 hx (fun hg1061 hx => ?_) (fun hg1061 hx => ?_)
 refine gv rfl hg1061 rfl (r_fld u64 rfl rfl sz62 rfl) <| gv rfl hg1061 rfl (r_ldBS u62 sz62 rfl (us := [(iv t.a.code), (iv t.a.rev), s_t_13.v, s_t_14.v]) rfl hM m0 rfl) <| gv rfl hg1061 rfl (r_build (cells := #[(iv 0), (iv 0), (.slice none 0 0), (.slice none 0 0)]) rfl (by kernel_rfl)) <| bs hx fun _ h1074 hx => g_cv hM hg1061 rfl rfl rfl (fun X S oL hS hR hO => ct_impl_AnswerSame _ X S t.a s_t_13 s_t_14 (⟨0, 0, [], []⟩ : DAnswer) nS nS hS (hR _ m1) (hR _ m0) (rd_nil _ _) (rd_nil _ _) oL h1074) fun _ hM => wv rfl (p_t rfl hg1061 rfl) ?_
 obtain rfl := oi hx
 exact mid_h ⟨rfl, trivial⟩ hM
 refine gn hg1061 rfl rfl <| gn hg1061 rfl rfl <| gn hg1061 rfl rfl <| gn hg1061 rfl rfl <| wv rfl (p_f rfl hg1061 rfl) ?_
 obtain rfl := oi hx
 exact mid_h ⟨rfl, trivial⟩ hM
 replace hx := hx1068
 refine was rfl rfl <| wl_sq <| wc_ret <| bk_ret <| sq_ret ?_
 obtain rfl := oi hx
 exact fin_u [(bv c1060)] hM ⟨rfl, trivial⟩ rfl
 refine wc_seq <| wc_sr <| wv rfl (r_eql rfl rfl) <| was rfl rfl <| wl_sq ?_
 refine wcx hx rfl (fun hx => ?_) (fun hx => ?_)
 refine wc_skip <| sq_n ?_
 refine wcx hx rfl (fun hx => ?_) (fun hx => ?_)
 refine wc_sr <| wv rfl (r_fld u64 rfl rfl sz62 rfl) <| wv rfl (r_ldBS u62 sz62 rfl (us := [(iv t.a.code), (iv t.a.rev), s_t_13.v, s_t_14.v]) rfl hM m0 rfl) <| wv rfl (r_build (cells := #[(iv 11), (iv 0), (.slice none 0 0), (.slice none 0 0)]) rfl (by kernel_rfl)) <| bs hx fun _ h1085 hx => w_cv hM rfl rfl (fun X S oL hS hR hO => ct_impl_AnswerSame _ X S t.a s_t_13 s_t_14 (⟨11, 0, [], []⟩ : DAnswer) nS nS hS (hR _ m1) (hR _ m0) (rd_nil _ _) (rd_nil _ _) oL h1085) fun _ hM => wmv rfl rfl <| bs hx fun c1088 hx hx1094 => ?_
 refine wl_midH 5 [(67, (bv c1088)), (1, (pt b697 0))] hM ?_ fun w1095 hM => ?_
 refine cs2 hx (fun hg1089 hx => ?_) (fun hg1089 hx => ?_)
 refine gv rfl hg1089 rfl (r_fld u64 rfl rfl sz59 rfl) <| gv rfl hg1089 rfl (r_fld u59 rfl rfl sz3 rfl) <| gv rfl hg1089 rfl (r_ldB u3 rfl rfl hM m0 rfl) <| gv rfl hg1089 rfl (r_eql rfl rfl) <| wv rfl (p_t rfl hg1089 rfl) ?_
 cases hx
 exact mid_h ⟨rfl, rfl, trivial⟩ hM
 refine gn hg1089 rfl rfl <| gn hg1089 rfl rfl <| gn hg1089 rfl rfl <| gn hg1089 rfl rfl <| wv rfl (p_f rfl hg1089 rfl) ?_
 obtain rfl := oi hx
 exact mid_h ⟨rfl, rfl, trivial⟩ hM
 replace hx := hx1094
 refine wmv rfl rfl <| bs hx fun c1101 hx hx1106 => ?_
 refine wl_midH 4 [(72, (bv c1101)), (1, (pt b697 0))] hM ?_ fun w1107 hM => ?_
 refine cs2 hx (fun hg1102 hx => ?_) (fun hg1102 hx => ?_)
 refine gv rfl hg1102 rfl (r_fld u64 rfl rfl sz3 rfl) <| gv rfl hg1102 rfl (r_ldB u3 rfl rfl hM m0 rfl) <| gv rfl hg1102 rfl (r_eql rfl rfl) <| wv rfl (p_t rfl hg1102 rfl) ?_
 cases hx
 exact mid_h ⟨rfl, rfl, trivial⟩ hM
 refine gn hg1102 rfl rfl <| gn hg1102 rfl rfl <| gn hg1102 rfl rfl <| wv rfl (p_f rfl hg1102 rfl) ?_
 obtain rfl := oi hx
 exact mid_h ⟨rfl, rfl, trivial⟩ hM
 replace hx := hx1106
 refine was rfl rfl <| wl_sq <| wc_seq <| wc_sr <| wmv rfl rfl <| wv rfl (r_not rfl) <| wmv rfl rfl <| bs hx fun c1115 hx hx1125 => ?_
 refine wl_midH 7 [(82, (bv c1115)), (1, (pt b697 0))] hM ?_ fun w1126 hM => ?_
 refine cs2 hx (fun hg1116 hx => ?_) (fun hg1116 hx => ?_)
 refine gv rfl hg1116 rfl (r_fld u64 rfl rfl sz3 rfl) <| gv rfl hg1116 rfl (r_ldB u3 rfl rfl hM m0 rfl) <| gv rfl hg1116 rfl (r_fld u64 rfl rfl sz3 rfl) <| gv rfl hg1116 rfl (r_ldB u3 rfl rfl hM m0 rfl) <| bs hx fun _ h1132 hx => g_cv hM hg1116 rfl rfl rfl (fun X S oL hS hR hO => ct_impl_within _ X S t.lin t.inv (1000000 : Int) hS  oL h1132) fun _ hM => gv rfl hg1116 rfl (r_not rfl) <| wv rfl (p_t rfl hg1116 rfl) ?_
 cases hx
 exact mid_h ⟨rfl, rfl, trivial⟩ hM
 refine gn hg1116 rfl rfl <| gn hg1116 rfl rfl <| gn hg1116 rfl rfl <| gn hg1116 rfl rfl <| gn hg1116 rfl rfl <| gn hg1116 rfl rfl <| wv rfl (p_f rfl hg1116 rfl) ?_
 obtain rfl := oi hx
 exact mid_h ⟨rfl, rfl, trivial⟩ hM
 replace hx := hx1125
 refine wl_sq ?_
 refine wcx hx rfl (fun hx => ?_) (fun hx => ?_)
 refine wc_sr <| was rfl rfl <| wl_sq <| wc_ret <| sq_ret <| bk_ret <| sq_ret ?_
 obtain rfl := oi hx
 exact fin_u [(bv false)] hM ⟨rfl, trivial⟩ rfl
 refine wc_skip <| sq_n <| wc_seq <| wc_sr <| wv rfl (r_fld u64 rfl rfl sz3 rfl) <| wv rfl (r_ldB u3 rfl rfl hM m0 rfl) <| wv rfl (r_eql rfl rfl) <| wl_sq ?_
 refine wcx hx rfl (fun hx => ?_) (fun hx => ?_)
 refine wc_sr <| wv rfl (r_fld u64 rfl rfl sz3 rfl) <| wv rfl (r_ldB u3 rfl rfl hM m0 rfl) <| wv rfl (r_eql rfl rfl) <| was rfl rfl <| wl_sq <| wc_ret <| sq_ret <| bk_ret <| sq_ret ?_
 obtain rfl := oi hx
 exact fin_u [(bv (decide (t.res = (-1))))] hM ⟨rfl, trivial⟩ rfl
 refine wc_skip <| sq_n <| wc_sr <| wv rfl (r_fld u64 rfl rfl sz3 rfl) <| wv rfl (r_ldB u3 rfl rfl hM m0 rfl) <| wv rfl (r_fld u64 rfl rfl sz3 rfl) <| wv rfl (r_ldB u3 rfl rfl hM m0 rfl) <| wv rfl (r_fld u64 rfl rfl sz3 rfl) <| wv rfl (r_ldB u3 rfl rfl hM m0 rfl) <| wv rfl (r_max u3 rfl rfl) <| bs hx fun r1152 h1153 hx => w_cv hM rfl rfl (fun X S oL hS hR hO => ct_impl_within _ X S t.res (max t.inv t.lin) (1000000 : Int) hS  oL h1153) fun _ hM => was rfl rfl <| wl_sq ?_
 refine wc_ret <| bk_ret <| sq_ret ?_
 obtain rfl := oi hx
 exact fin_u [(bv r1152)] hM ⟨rfl, trivial⟩ rfl
 refine wc_skip <| bk_n <| sq_n <| wc_sr <| was rfl rfl <| wl_sq <| wc_ret ?_
 obtain rfl := oi hx
 exact fin_u [(bv false)] hM ⟨rfl, trivial⟩ rfl
 refine wc_region <| wv rfl (r_eql rfl rfl) <| was rfl rfl <| wl_sq ?_
 refine wcx hx rfl (fun hx => ?_) (fun hx => ?_)
 refine wc_sr <| wv rfl (r_fld u64 rfl rfl sz62 rfl) <| wv rfl (r_ldBS u62 sz62 rfl (us := [(iv t.a.code), (iv t.a.rev), s_t_13.v, s_t_14.v]) rfl hM m0 rfl) <| wv rfl (r_build (cells := #[(iv 11), (iv 0), (.slice none 0 0), (.slice none 0 0)]) rfl (by kernel_rfl)) <| bs hx fun _ h1164 hx => w_cv hM rfl rfl (fun X S oL hS hR hO => ct_impl_AnswerSame _ X S t.a s_t_13 s_t_14 (⟨11, 0, [], []⟩ : DAnswer) nS nS hS (hR _ m1) (hR _ m0) (rd_nil _ _) (rd_nil _ _) oL h1164) fun _ hM => wmv rfl rfl <| bs hx fun c1167 hx hx1173 => ?_
 refine wl_midH 5 [(67, (bv c1167)), (1, (pt b697 0))] hM ?_ fun w1174 hM => ?_
 refine cs2 hx (fun hg1168 hx => ?_) (fun hg1168 hx => ?_)
 refine gv rfl hg1168 rfl (r_fld u64 rfl rfl sz59 rfl) <| gv rfl hg1168 rfl (r_fld u59 rfl rfl sz3 rfl) <| gv rfl hg1168 rfl (r_ldB u3 rfl rfl hM m0 rfl) <| gv rfl hg1168 rfl (r_eql rfl rfl) <| wv rfl (p_t rfl hg1168 rfl) ?_
 cases hx
 exact mid_h ⟨rfl, rfl, trivial⟩ hM
 refine gn hg1168 rfl rfl <| gn hg1168 rfl rfl <| gn hg1168 rfl rfl <| gn hg1168 rfl rfl <| wv rfl (p_f rfl hg1168 rfl) ?_
 obtain rfl := oi hx
 exact mid_h ⟨rfl, rfl, trivial⟩ hM
 replace hx := hx1173
 refine wmv rfl rfl <| bs hx fun c1180 hx hx1185 => ?_
 refine wl_midH 4 [(72, (bv c1180)), (1, (pt b697 0))] hM ?_ fun w1186 hM => ?_
 refine cs2 hx (fun hg1181 hx => ?_) (fun hg1181 hx => ?_)
 refine gv rfl hg1181 rfl (r_fld u64 rfl rfl sz3 rfl) <| gv rfl hg1181 rfl (r_ldB u3 rfl rfl hM m0 rfl) <| gv rfl hg1181 rfl (r_eql rfl rfl) <| wv rfl (p_t rfl hg1181 rfl) ?_
 cases hx
 exact mid_h ⟨rfl, rfl, trivial⟩ hM
 refine gn hg1181 rfl rfl <| gn hg1181 rfl rfl <| gn hg1181 rfl rfl <| wv rfl (p_f rfl hg1181 rfl) ?_
 obtain rfl := oi hx
 exact mid_h ⟨rfl, rfl, trivial⟩ hM
 replace hx := hx1185
 refine was rfl rfl <| wl_sq <| wc_seq <| wc_sr <| wmv rfl rfl <| wv rfl (r_not rfl) <| wmv rfl rfl <| bs hx fun c1194 hx hx1204 => ?_
 refine wl_midH 7 [(82, (bv c1194)), (1, (pt b697 0))] hM ?_ fun w1205 hM => ?_
 refine cs2 hx (fun hg1195 hx => ?_) (fun hg1195 hx => ?_)
 refine gv rfl hg1195 rfl (r_fld u64 rfl rfl sz3 rfl) <| gv rfl hg1195 rfl (r_ldB u3 rfl rfl hM m0 rfl) <| gv rfl hg1195 rfl (r_fld u64 rfl rfl sz3 rfl) <| gv rfl hg1195 rfl (r_ldB u3 rfl rfl hM m0 rfl) <| bs hx fun _ h1211 hx => g_cv hM hg1195 rfl rfl rfl (fun X S oL hS hR hO => ct_impl_within _ X S t.lin t.inv (1000000 : Int) hS  oL h1211) fun _ hM => gv rfl hg1195 rfl (r_not rfl) <| wv rfl (p_t rfl hg1195 rfl) ?_
 cases hx
 exact mid_h ⟨rfl, rfl, trivial⟩ hM
 refine gn hg1195 rfl rfl <| gn hg1195 rfl rfl <| gn hg1195 rfl rfl <| gn hg1195 rfl rfl <| gn hg1195 rfl rfl <| gn hg1195 rfl rfl <| wv rfl (p_f rfl hg1195 rfl) ?_
 obtain rfl := oi hx
 exact mid_h ⟨rfl, rfl, trivial⟩ hM
 replace hx := hx1204
 refine wl_sq ?_
 refine wcx hx rfl (fun hx => ?_) (fun hx => ?_)
 refine wc_sr <| was rfl rfl <| wl_sq <| wc_ret <| sq_ret <| bk_ret <| sq_ret ?_
 obtain rfl := oi hx
 exact fin_u [(bv false)] hM ⟨rfl, trivial⟩ rfl
 refine wc_skip <| sq_n <| wc_seq <| wc_sr <| wv rfl (r_fld u64 rfl rfl sz3 rfl) <| wv rfl (r_ldB u3 rfl rfl hM m0 rfl) <| wv rfl (r_eql rfl rfl) <| wl_sq ?_
 refine wcx hx rfl (fun hx => ?_) (fun hx => ?_)
 refine wc_sr <| wv rfl (r_fld u64 rfl rfl sz3 rfl) <| wv rfl (r_ldB u3 rfl rfl hM m0 rfl) <| wv rfl (r_eql rfl rfl) <| was rfl rfl <| wl_sq <| wc_ret <| sq_ret <| bk_ret <| sq_ret ?_
 obtain rfl := oi hx
 exact fin_u [(bv (decide (t.res = (-1))))] hM ⟨rfl, trivial⟩ rfl
 refine wc_skip <| sq_n <| wc_sr <| wv rfl (r_fld u64 rfl rfl sz3 rfl) <| wv rfl (r_ldB u3 rfl rfl hM m0 rfl) <| wv rfl (r_fld u64 rfl rfl sz3 rfl) <| wv rfl (r_ldB u3 rfl rfl hM m0 rfl) <| wv rfl (r_fld u64 rfl rfl sz3 rfl) <| wv rfl (r_ldB u3 rfl rfl hM m0 rfl) <| wv rfl (r_max u3 rfl rfl) <| bs hx fun r1231 h1232 hx => w_cv hM rfl rfl (fun X S oL hS hR hO => ct_impl_within _ X S t.res (max t.inv t.lin) (1000000 : Int) hS  oL h1232) fun _ hM => was rfl rfl <| wl_sq ?_
 refine wc_ret <| bk_ret <| sq_ret ?_
 obtain rfl := oi hx
 exact fin_u [(bv r1231)] hM ⟨rfl, trivial⟩ rfl
 refine wc_skip <| bk_n <| sq_n <| wc_sr <| was rfl rfl <| wl_sq <| wc_ret ?_
 obtain rfl := oi hx
 exact fin_u [(bv false)] hM ⟨rfl, trivial⟩ rfl
 refine wc_region <| wv rfl (r_eql rfl rfl) <| was rfl rfl <| wl_sq ?_
 refine wcx hx rfl (fun hx => ?_) (fun hx => ?_)
 refine wc_seq <| wc_sr <| wv rfl (r_fld u64 rfl rfl sz3 rfl) <| wv rfl (r_ldB u3 rfl rfl hM m0 rfl) <| wv rfl (r_eql rfl rfl) <| wmv rfl rfl <| bs hx fun c1243 hx hx1252 => ?_
 refine wl_midH 6 [(29, (bv c1243)), (1, (pt b697 0))] hM ?_ fun w1253 hM => ?_
 refine cs2 hx (fun hg1244 hx => ?_) (fun hg1244 hx => ?_)
 refine gv rfl hg1244 rfl (r_fld u64 rfl rfl sz59 rfl) <| gv rfl hg1244 rfl (r_fld u59 rfl rfl sz3 rfl) <| gv rfl hg1244 rfl (r_ldB u3 rfl rfl hM m0 rfl) <| bs hx fun _ h1258 hx => g_cv hM hg1244 rfl rfl rfl (fun X S oL hS hR hO => ct_impl_OnDoc _ X S t.c.kind hS  oL h1258) fun _ hM => gv rfl hg1244 rfl (r_not rfl) <| wv rfl (p_t rfl hg1244 rfl) ?_
 cases hx
 exact mid_h ⟨rfl, rfl, trivial⟩ hM
 refine gn hg1244 rfl rfl <| gn hg1244 rfl rfl <| gn hg1244 rfl rfl <| gn hg1244 rfl rfl <| gn hg1244 rfl rfl <| wv rfl (p_f rfl hg1244 rfl) ?_
 obtain rfl := oi hx
 exact mid_h ⟨rfl, rfl, trivial⟩ hM
 replace hx := hx1252
 refine wmv rfl rfl <| bs hx fun c1262 hx hx1278 => ?_
 refine wl_midH 10 [(40, (bv c1262)), (1, (pt b697 0))] hM ?_ fun w1279 hM => ?_
 refine cs2 hx (fun hg1263 hx => ?_) (fun hg1263 hx => ?_)
 refine gn hg1263 rfl rfl <| gn hg1263 rfl rfl <| gn hg1263 rfl rfl <| gn hg1263 rfl rfl <| gs rfl rfl rfl <| gs rfl rfl rfl <| gs rfl rfl rfl <| gs rfl rfl rfl <| gn hg1263 rfl rfl <| wv rfl (p_t rfl hg1263 rfl) ?_
 obtain rfl := oi hx
 exact mid_h ⟨rfl, rfl, trivial⟩ hM
 refine gv rfl hg1263 rfl (r_fld u64 rfl rfl sz3 rfl) <| gv rfl hg1263 rfl (r_ldB u3 rfl rfl hM m0 rfl) <| gv rfl hg1263 rfl (r_eql rfl rfl) <| gv rfl hg1263 rfl (r_move rfl) <| bs hx fun c1284 hx hx1290 => ?_
 refine wl_midH 5 [(39, (bv c1284)), (1, (pt b697 0)), (30, (bv c1243))] hM ?_ fun w1291 hM => ?_
 refine cs2 hx (fun hg1285 hx => ?_) (fun hg1285 hx => ?_)
 refine gv rfl hg1285 rfl (r_fld u64 rfl rfl sz59 rfl) <| gv rfl hg1285 rfl (r_fld u59 rfl rfl sz3 rfl) <| gv rfl hg1285 rfl (r_ldB u3 rfl rfl hM m0 rfl) <| gv rfl hg1285 rfl (r_neq rfl rfl) <| gv rfl hg1263 rfl (p_t rfl hg1285 rfl) ?_
 cases hx
 exact mid_h ⟨rfl, rfl, rfl, trivial⟩ hM
 refine gn hg1285 rfl rfl <| gn hg1285 rfl rfl <| gn hg1285 rfl rfl <| gn hg1285 rfl rfl <| gv rfl hg1263 rfl (p_f rfl hg1285 rfl) ?_
 obtain rfl := oi hx
 exact mid_h ⟨rfl, rfl, rfl, trivial⟩ hM
 replace hx := hx1290
 refine wv rfl (p_f rfl hg1263 rfl) ?_
 obtain rfl := oi hx
 exact mid_h ⟨rfl, rfl, trivial⟩ hM
 replace hx := hx1278
 refine wl_sq ?_
 refine wcx hx rfl (fun hx => ?_) (fun hx => ?_)
 refine wc_sr <| was rfl rfl <| wl_sq <| wc_ret <| sq_ret <| bk_ret <| sq_ret ?_
 obtain rfl := oi hx
 exact fin_u [(bv false)] hM ⟨rfl, trivial⟩ rfl
 refine wc_skip <| sq_n <| wc_sr <| wv rfl (r_fld u64 rfl rfl sz3 rfl) <| wv rfl (r_ldB u3 rfl rfl hM m0 rfl) <| wv rfl (r_eql rfl rfl) <| wmv rfl rfl <| bs hx fun c1302 hx hx1307 => ?_
 refine wl_midH 4 [(48, (bv c1302)), (1, (pt b697 0))] hM ?_ fun w1308 hM => ?_
 refine cs2 hx (fun hg1303 hx => ?_) (fun hg1303 hx => ?_)
 refine gv rfl hg1303 rfl (r_fld u64 rfl rfl sz3 rfl) <| gv rfl hg1303 rfl (r_ldB u3 rfl rfl hM m0 rfl) <| gv rfl hg1303 rfl (r_eql rfl rfl) <| wv rfl (p_t rfl hg1303 rfl) ?_
 cases hx
 exact mid_h ⟨rfl, rfl, trivial⟩ hM
 refine gn hg1303 rfl rfl <| gn hg1303 rfl rfl <| gn hg1303 rfl rfl <| wv rfl (p_f rfl hg1303 rfl) ?_
 obtain rfl := oi hx
 exact mid_h ⟨rfl, rfl, trivial⟩ hM
 replace hx := hx1307
 refine wmv rfl rfl <| bs hx fun c1313 hx hx1321 => ?_
 refine wl_midH 5 [(54, (bv c1313))] hM ?_ fun w1322 hM => ?_
 refine cs2 hx (fun hg1314 hx => ?_) (fun hg1314 hx => ?_)
 refine gv rfl hg1314 rfl (r_fld u64 rfl rfl sz62 rfl) <| gv rfl hg1314 rfl (r_ldBS u62 sz62 rfl (us := [(iv t.a.code), (iv t.a.rev), s_t_13.v, s_t_14.v]) rfl hM m0 rfl) <| gv rfl hg1314 rfl (r_build (cells := #[(iv 0), (iv 0), (.slice none 0 0), (.slice none 0 0)]) rfl (by kernel_rfl)) <| bs hx fun _ h1327 hx => g_cv hM hg1314 rfl rfl rfl (fun X S oL hS hR hO => ct_impl_AnswerSame _ X S t.a s_t_13 s_t_14 (⟨0, 0, [], []⟩ : DAnswer) nS nS hS (hR _ m1) (hR _ m0) (rd_nil _ _) (rd_nil _ _) oL h1327) fun _ hM => wv rfl (p_t rfl hg1314 rfl) ?_
 obtain rfl := oi hx
 exact mid_h ⟨rfl, trivial⟩ hM
 refine gn hg1314 rfl rfl <| gn hg1314 rfl rfl <| gn hg1314 rfl rfl <| gn hg1314 rfl rfl <| wv rfl (p_f rfl hg1314 rfl) ?_
 obtain rfl := oi hx
 exact mid_h ⟨rfl, trivial⟩ hM
 replace hx := hx1321
 refine was rfl rfl <| wl_sq <| wc_ret <| bk_ret <| sq_ret ?_
 obtain rfl := oi hx
 exact fin_u [(bv c1313)] hM ⟨rfl, trivial⟩ rfl
 refine wc_seq <| wc_sr <| wv rfl (r_eql rfl rfl) <| was rfl rfl <| wl_sq ?_
 refine wcx hx rfl (fun hx => ?_) (fun hx => ?_)
 refine wc_skip <| sq_n ?_
 refine wcx hx rfl (fun hx => ?_) (fun hx => ?_)
 refine wc_sr <| wv rfl (r_fld u64 rfl rfl sz62 rfl) <| wv rfl (r_ldBS u62 sz62 rfl (us := [(iv t.a.code), (iv t.a.rev), s_t_13.v, s_t_14.v]) rfl hM m0 rfl) <| wv rfl (r_build (cells := #[(iv 11), (iv 0), (.slice none 0 0), (.slice none 0 0)]) rfl (by kernel_rfl)) <| bs hx fun _ h1338 hx => w_cv hM rfl rfl (fun X S oL hS hR hO => ct_impl_AnswerSame _ X S t.a s_t_13 s_t_14 (⟨11, 0, [], []⟩ : DAnswer) nS nS hS (hR _ m1) (hR _ m0) (rd_nil _ _) (rd_nil _ _) oL h1338) fun _ hM => wmv rfl rfl <| bs hx fun c1341 hx hx1347 => ?_
 refine wl_midH 5 [(67, (bv c1341)), (1, (pt b697 0))] hM ?_ fun w1348 hM => ?_
 refine cs2 hx (fun hg1342 hx => ?_) (fun hg1342 hx => ?_)
 refine gv rfl hg1342 rfl (r_fld u64 rfl rfl sz59 rfl) <| gv rfl hg1342 rfl (r_fld u59 rfl rfl sz3 rfl) <| gv rfl hg1342 rfl (r_ldB u3 rfl rfl hM m0 rfl) <| gv rfl hg1342 rfl (r_eql rfl rfl) <| wv rfl (p_t rfl hg1342 rfl) ?_
 cases hx
 exact mid_h ⟨rfl, rfl, trivial⟩ hM
 refine gn hg1342 rfl rfl <| gn hg1342 rfl rfl <| gn hg1342 rfl rfl <| gn hg1342 rfl rfl <| wv rfl (p_f rfl hg1342 rfl) ?_
 obtain rfl := oi hx
 exact mid_h ⟨rfl, rfl, trivial⟩ hM
 replace hx := hx1347
 refine wmv rfl rfl <| bs hx fun c1354 hx hx1359 => ?_
 refine wl_midH 4 [(72, (bv c1354)), (1, (pt b697 0))] hM ?_ fun w1360 hM => ?_
 refine cs2 hx (fun hg1355 hx => ?_) (fun hg1355 hx => ?_)
 refine gv rfl hg1355 rfl (r_fld u64 rfl rfl sz3 rfl) <| gv rfl hg1355 rfl (r_ldB u3 rfl rfl hM m0 rfl) <| gv rfl hg1355 rfl (r_eql rfl rfl) <| wv rfl (p_t rfl hg1355 rfl) ?_
 cases hx
 exact mid_h ⟨rfl, rfl, trivial⟩ hM
 refine gn hg1355 rfl rfl <| gn hg1355 rfl rfl <| gn hg1355 rfl rfl <| wv rfl (p_f rfl hg1355 rfl) ?_
 obtain rfl := oi hx
 exact mid_h ⟨rfl, rfl, trivial⟩ hM
 replace hx := hx1359
 refine was rfl rfl <| wl_sq <| wc_seq <| wc_sr <| wmv rfl rfl <| wv rfl (r_not rfl) <| wmv rfl rfl <| bs hx fun c1368 hx hx1378 => ?_
 refine wl_midH 7 [(82, (bv c1368)), (1, (pt b697 0))] hM ?_ fun w1379 hM => ?_
 refine cs2 hx (fun hg1369 hx => ?_) (fun hg1369 hx => ?_)
 refine gv rfl hg1369 rfl (r_fld u64 rfl rfl sz3 rfl) <| gv rfl hg1369 rfl (r_ldB u3 rfl rfl hM m0 rfl) <| gv rfl hg1369 rfl (r_fld u64 rfl rfl sz3 rfl) <| gv rfl hg1369 rfl (r_ldB u3 rfl rfl hM m0 rfl) <| bs hx fun _ h1385 hx => g_cv hM hg1369 rfl rfl rfl (fun X S oL hS hR hO => ct_impl_within _ X S t.lin t.inv (1000000 : Int) hS  oL h1385) fun _ hM => gv rfl hg1369 rfl (r_not rfl) <| wv rfl (p_t rfl hg1369 rfl) ?_
 cases hx
 exact mid_h ⟨rfl, rfl, trivial⟩ hM
 refine gn hg1369 rfl rfl <| gn hg1369 rfl rfl <| gn hg1369 rfl rfl <| gn hg1369 rfl rfl <| gn hg1369 rfl rfl <| gn hg1369 rfl rfl <| wv rfl (p_f rfl hg1369 rfl) ?_
 obtain rfl := oi hx
 exact mid_h ⟨rfl, rfl, trivial⟩ hM
 replace hx := hx1378
 refine wl_sq ?_
 refine wcx hx rfl (fun hx => ?_) (fun hx => ?_)
 refine wc_sr <| was rfl rfl <| wl_sq <| wc_ret <| sq_ret <| bk_ret <| sq_ret ?_
 obtain rfl := oi hx
 exact fin_u [(bv false)] hM ⟨rfl, trivial⟩ rfl
 refine wc_skip <| sq_n <| wc_seq <| wc_sr <| wv rfl (r_fld u64 rfl rfl sz3 rfl) <| wv rfl (r_ldB u3 rfl rfl hM m0 rfl) <| wv rfl (r_eql rfl rfl) <| wl_sq ?_
 refine wcx hx rfl (fun hx => ?_) (fun hx => ?_)
 refine wc_sr <| wv rfl (r_fld u64 rfl rfl sz3 rfl) <| wv rfl (r_ldB u3 rfl rfl hM m0 rfl) <| wv rfl (r_eql rfl rfl) <| was rfl rfl <| wl_sq <| wc_ret <| sq_ret <| bk_ret <| sq_ret ?_
 obtain rfl := oi hx
 exact fin_u [(bv (decide (t.res = (-1))))] hM ⟨rfl, trivial⟩ rfl
 refine wc_skip <| sq_n <| wc_sr <| wv rfl (r_fld u64 rfl rfl sz3 rfl) <| wv rfl (r_ldB u3 rfl rfl hM m0 rfl) <| wv rfl (r_fld u64 rfl rfl sz3 rfl) <| wv rfl (r_ldB u3 rfl rfl hM m0 rfl) <| wv rfl (r_fld u64 rfl rfl sz3 rfl) <| wv rfl (r_ldB u3 rfl rfl hM m0 rfl) <| wv rfl (r_max u3 rfl rfl) <| bs hx fun r1405 h1406 hx => w_cv hM rfl rfl (fun X S oL hS hR hO => ct_impl_within _ X S t.res (max t.inv t.lin) (1000000 : Int) hS  oL h1406) fun _ hM => was rfl rfl <| wl_sq ?_
 refine wc_ret <| bk_ret <| sq_ret ?_
 obtain rfl := oi hx
 exact fin_u [(bv r1405)] hM ⟨rfl, trivial⟩ rfl
 refine wc_skip <| bk_n <| sq_n <| wc_sr <| was rfl rfl <| wl_sq <| wc_ret ?_
 obtain rfl := oi hx
 exact fin_u [(bv false)] hM ⟨rfl, trivial⟩ rfl
 refine wc_region <| wv rfl (r_eql rfl rfl) <| was rfl rfl <| wl_sq ?_
 refine wcx hx rfl (fun hx => ?_) (fun hx => ?_)
 refine wc_sr <| wv rfl (r_fld u64 rfl rfl sz62 rfl) <| wv rfl (r_ldBS u62 sz62 rfl (us := [(iv t.a.code), (iv t.a.rev), s_t_13.v, s_t_14.v]) rfl hM m0 rfl) <| wv rfl (r_build (cells := #[(iv 11), (iv 0), (.slice none 0 0), (.slice none 0 0)]) rfl (by kernel_rfl)) <| bs hx fun _ h1417 hx => w_cv hM rfl rfl (fun X S oL hS hR hO => ct_impl_AnswerSame _ X S t.a s_t_13 s_t_14 (⟨11, 0, [], []⟩ : DAnswer) nS nS hS (hR _ m1) (hR _ m0) (rd_nil _ _) (rd_nil _ _) oL h1417) fun _ hM => wmv rfl rfl <| bs hx fun c1420 hx hx1426 => ?_
 refine wl_midH 5 [(67, (bv c1420)), (1, (pt b697 0))] hM ?_ fun w1427 hM => ?_
 refine cs2 hx (fun hg1421 hx => ?_) (fun hg1421 hx => ?_)
 refine gv rfl hg1421 rfl (r_fld u64 rfl rfl sz59 rfl) <| gv rfl hg1421 rfl (r_fld u59 rfl rfl sz3 rfl) <| gv rfl hg1421 rfl (r_ldB u3 rfl rfl hM m0 rfl) <| gv rfl hg1421 rfl (r_eql rfl rfl) <| wv rfl (p_t rfl hg1421 rfl) ?_
 cases hx
 exact mid_h ⟨rfl, rfl, trivial⟩ hM
 refine gn hg1421 rfl rfl <| gn hg1421 rfl rfl <| gn hg1421 rfl rfl <| gn hg1421 rfl rfl <| wv rfl (p_f rfl hg1421 rfl) ?_
 obtain rfl := oi hx
 exact mid_h ⟨rfl, rfl, trivial⟩ hM
 replace hx := hx1426
 refine wmv rfl rfl <| bs hx fun c1433 hx hx1438 => ?_
 refine wl_midH 4 [(72, (bv c1433)), (1, (pt b697 0))] hM ?_ fun w1439 hM => ?_
 refine cs2 hx (fun hg1434 hx => ?_) (fun hg1434 hx => ?_)
 refine gv rfl hg1434 rfl (r_fld u64 rfl rfl sz3 rfl) <| gv rfl hg1434 rfl (r_ldB u3 rfl rfl hM m0 rfl) <| gv rfl hg1434 rfl (r_eql rfl rfl) <| wv rfl (p_t rfl hg1434 rfl) ?_
 cases hx
 exact mid_h ⟨rfl, rfl, trivial⟩ hM
 refine gn hg1434 rfl rfl <| gn hg1434 rfl rfl <| gn hg1434 rfl rfl <| wv rfl (p_f rfl hg1434 rfl) ?_
 obtain rfl := oi hx
 exact mid_h ⟨rfl, rfl, trivial⟩ hM
 replace hx := hx1438
 refine was rfl rfl <| wl_sq <| wc_seq <| wc_sr <| wmv rfl rfl <| wv rfl (r_not rfl) <| wmv rfl rfl <| bs hx fun c1447 hx hx1457 => ?_
 refine wl_midH 7 [(82, (bv c1447)), (1, (pt b697 0))] hM ?_ fun w1458 hM => ?_
 refine cs2 hx (fun hg1448 hx => ?_) (fun hg1448 hx => ?_)
 refine gv rfl hg1448 rfl (r_fld u64 rfl rfl sz3 rfl) <| gv rfl hg1448 rfl (r_ldB u3 rfl rfl hM m0 rfl) <| gv rfl hg1448 rfl (r_fld u64 rfl rfl sz3 rfl) <| gv rfl hg1448 rfl (r_ldB u3 rfl rfl hM m0 rfl) <| bs hx fun _ h1464 hx => g_cv hM hg1448 rfl rfl rfl (fun X S oL hS hR hO => ct_impl_within _ X S t.lin t.inv (1000000 : Int) hS  oL h1464) fun _ hM => gv rfl hg1448 rfl (r_not rfl) <| wv rfl (p_t rfl hg1448 rfl) ?_
 cases hx
 exact mid_h ⟨rfl, rfl, trivial⟩ hM
 refine gn hg1448 rfl rfl <| gn hg1448 rfl rfl <| gn hg1448 rfl rfl <| gn hg1448 rfl rfl <| gn hg1448 rfl rfl <| gn hg1448 rfl rfl <| wv rfl (p_f rfl hg1448 rfl) ?_
 obtain rfl := oi hx
 exact mid_h ⟨rfl, rfl, trivial⟩ hM
 replace hx := hx1457
 refine wl_sq ?_
 refine wcx hx rfl (fun hx => ?_) (fun hx => ?_)
 refine wc_sr <| was rfl rfl <| wl_sq <| wc_ret <| sq_ret <| bk_ret <| sq_ret ?_
 obtain rfl := oi hx
 exact fin_u [(bv false)] hM ⟨rfl, trivial⟩ rfl
 refine wc_skip <| sq_n <| wc_seq <| wc_sr <| wv rfl (r_fld u64 rfl rfl sz3 rfl) <| wv rfl (r_ldB u3 rfl rfl hM m0 rfl) <| wv rfl (r_eql rfl rfl) <| wl_sq ?_
 refine wcx hx rfl (fun hx => ?_) (fun hx => ?_)
 refine wc_sr <| wv rfl (r_fld u64 rfl rfl sz3 rfl) <| wv rfl (r_ldB u3 rfl rfl hM m0 rfl) <| wv rfl (r_eql rfl rfl) <| was rfl rfl <| wl_sq <| wc_ret <| sq_ret <| bk_ret <| sq_ret ?_
 obtain rfl := oi hx
 exact fin_u [(bv (decide (t.res = (-1))))] hM ⟨rfl, trivial⟩ rfl
 refine wc_skip <| sq_n <| wc_sr <| wv rfl (r_fld u64 rfl rfl sz3 rfl) <| wv rfl (r_ldB u3 rfl rfl hM m0 rfl) <| wv rfl (r_fld u64 rfl rfl sz3 rfl) <| wv rfl (r_ldB u3 rfl rfl hM m0 rfl) <| wv rfl (r_fld u64 rfl rfl sz3 rfl) <| wv rfl (r_ldB u3 rfl rfl hM m0 rfl) <| wv rfl (r_max u3 rfl rfl) <| bs hx fun r1484 h1485 hx => w_cv hM rfl rfl (fun X S oL hS hR hO => ct_impl_within _ X S t.res (max t.inv t.lin) (1000000 : Int) hS  oL h1485) fun _ hM => was rfl rfl <| wl_sq ?_
 refine wc_ret <| bk_ret <| sq_ret ?_
 obtain rfl := oi hx
 exact fin_u [(bv r1484)] hM ⟨rfl, trivial⟩ rfl
 refine wc_skip <| bk_n <| sq_n <| wc_sr <| was rfl rfl <| wl_sq <| wc_ret ?_
 obtain rfl := oi hx
 exact fin_u [(bv false)] hM ⟨rfl, trivial⟩ rfl

noncomputable def x_spec_TaskOk (t : DTask) : Option Bool :=
  Option.bind (x_spec_CallOk t.c) fun r8 => Option.bind (bif !r8 then (some true) else (Option.bind (x_spec_l01In t.inv 0 1000000) fun r23 => some (!r23))) fun c13 => Option.bind (bif c13 then (some true) else (Option.bind (x_spec_l01In t.pc 0 4) fun r38 => some (!r38))) fun c28 => bif c28 then (some false) else (Option.bind (bif decide (t.pc = 1) then (Option.bind (x_spec_OnDoc t.c.kind) fun r59 => some (!r59)) else (some false)) fun c47 => Option.bind (bif c47 then (some true) else (Option.bind (bif decide (t.pc = 2) then (some (!decide (t.c.kind = 2))) else (some false)) fun c84 => some c84)) fun c64 => bif c64 then (some false) else (bif decide (t.pc ≤ 2) then (Option.bind (bif decide (t.lin = (-1)) then (some (decide (t.res = (-1)))) else (some false)) fun c102 => Option.bind (bif c102 then (Option.bind (x_spec_AnswerSame t.a (⟨0, 0, [], []⟩ : DAnswer)) fun r122 => some r122) else (some false)) fun c111 => some c111) else (Option.bind (x_spec_AnswerSame t.a (⟨11, 0, [], []⟩ : DAnswer)) fun r129 => Option.bind (bif r129 then (some (decide (t.c.kind = 2))) else (some false)) fun c133 => Option.bind (bif c133 then (some (decide (t.lin = (-1)))) else (some false)) fun c144 => Option.bind (bif !c144 then (Option.bind (x_spec_l01In t.lin t.inv 1000000) fun r170 => some (!r170)) else (some false)) fun c156 => bif c156 then (some false) else (bif decide (t.pc = 3) then (some (decide (t.res = (-1)))) else (Option.bind (x_spec_l01In t.res t.inv 1000000) fun r186 => Option.bind (bif r186 then (some (decide (t.lin ≤ t.res))) else (some false)) fun c190 => some c190)))))
theorem ct_spec_TaskOk (w : World) (X S : Bs) (t : DTask) (s_t_5 : Sv) (s_t_6 : Sv) (s_t_13 : Sv) (s_t_14 : Sv) (hS : SX X S w) (a_t_5 : (cSl 3 fDPart t.c.o).rd S w s_t_5.v) (a_t_6 : (cSl 1 fI t.c.text).rd S w s_t_6.v) (a_t_13 : (cSl 1 fI t.a.text).rd S w s_t_13.v) (a_t_14 : (cSl 3 fDEntry t.a.list).rd S w s_t_14.v) (oL : Sep [] X w) {r : Bool} (hx : x_spec_TaskOk t = some r) :
 Ret Tryz.prog 45 [(.agg #[(iv t.c.kind), (.string t.c.doc), (iv t.c.client), (iv t.c.seq), (iv t.c.n), s_t_5.v, s_t_6.v, (iv t.pc), (iv t.inv), (iv t.lin), (iv t.res), (iv t.a.code), (iv t.a.rev), s_t_13.v, s_t_14.v])] w (KV X S w (bv r)) := by
 unfold x_spec_TaskOk at hx
 refine enter Tryz.func45 rfl Tryz.ntmps45 (by kernel_rfl) rfl ?_
 have hM := ((((St.enter oL hS).addV a_t_5).addV a_t_6).addV a_t_13).addV a_t_14
 refine wc_sr ?_
 refine w_ex rfl (x_box rfl hM ?_); intro b204 w203 hR205 hM
 refine was rfl rfl <| wl_sq <| wc_seq <| wc_sr <| wv rfl (r_fld u64 rfl rfl sz59 rfl) <| wv rfl (r_ldBS u59 sz59 rfl (us := [(iv t.c.kind), (.string t.c.doc), (iv t.c.client), (iv t.c.seq), (iv t.c.n), s_t_5.v, s_t_6.v]) rfl hM m0 rfl) <| bs hx fun _ h211 hx => w_cv hM rfl rfl (fun X S oL hS hR hO => ct_spec_CallOk _ X S t.c s_t_5 s_t_6 hS (hR _ m3) (hR _ m2) oL h211) fun _ hM => wv rfl (r_not rfl) <| wmv rfl rfl <| bs hx fun c215 hx hx223 => ?_
 refine wl_midH 5 [(13, (bv c215)), (1, (pt b204 0))] hM ?_ fun w224 hM => ?_
 refine cs2 hx (fun hg216 hx => ?_) (fun hg216 hx => ?_)
 refine gn hg216 rfl rfl <| gn hg216 rfl rfl <| gn hg216 rfl rfl <| gn hg216 rfl rfl <| wv rfl (p_t rfl hg216 rfl) ?_
 obtain rfl := oi hx
 exact mid_h ⟨rfl, rfl, trivial⟩ hM
 refine gv rfl hg216 rfl (r_fld u64 rfl rfl sz3 rfl) <| gv rfl hg216 rfl (r_ldB u3 rfl rfl hM m0 rfl) <| bs hx fun _ h228 hx => g_cv hM hg216 rfl rfl rfl (fun X S oL hS hR hO => ct_spec_l01In _ X S t.inv (0 : Int) (1000000 : Int) hS  oL h228) fun _ hM => gv rfl hg216 rfl (r_not rfl) <| wv rfl (p_f rfl hg216 rfl) ?_
 cases hx
 exact mid_h ⟨rfl, rfl, trivial⟩ hM
 replace hx := hx223
 refine wmv rfl rfl <| bs hx fun c232 hx hx240 => ?_
 refine wl_midH 5 [(19, (bv c232)), (1, (pt b204 0))] hM ?_ fun w241 hM => ?_
 refine cs2 hx (fun hg233 hx => ?_) (fun hg233 hx => ?_)
 refine gn hg233 rfl rfl <| gn hg233 rfl rfl <| gn hg233 rfl rfl <| gn hg233 rfl rfl <| wv rfl (p_t rfl hg233 rfl) ?_
 obtain rfl := oi hx
 exact mid_h ⟨rfl, rfl, trivial⟩ hM
 refine gv rfl hg233 rfl (r_fld u64 rfl rfl sz3 rfl) <| gv rfl hg233 rfl (r_ldB u3 rfl rfl hM m0 rfl) <| bs hx fun _ h245 hx => g_cv hM hg233 rfl rfl rfl (fun X S oL hS hR hO => ct_spec_l01In _ X S t.pc (0 : Int) (4 : Int) hS  oL h245) fun _ hM => gv rfl hg233 rfl (r_not rfl) <| wv rfl (p_f rfl hg233 rfl) ?_
 cases hx
 exact mid_h ⟨rfl, rfl, trivial⟩ hM
 replace hx := hx240
 refine wl_sq ?_
 refine wcx hx rfl (fun hx => ?_) (fun hx => ?_)
 refine wc_sr <| was rfl rfl <| wl_sq <| wc_ret <| sq_ret ?_
 obtain rfl := oi hx
 exact fin_u [(bv false)] hM ⟨rfl, trivial⟩ rfl
 refine wc_skip <| sq_n <| wc_seq <| wc_sr <| wv rfl (r_fld u64 rfl rfl sz3 rfl) <| wv rfl (r_ldB u3 rfl rfl hM m0 rfl) <| wv rfl (r_eql rfl rfl) <| wmv rfl rfl <| bs hx fun c254 hx hx263 => ?_
 refine wl_midH 6 [(29, (bv c254)), (1, (pt b204 0))] hM ?_ fun w264 hM => ?_
 refine cs2 hx (fun hg255 hx => ?_) (fun hg255 hx => ?_)
 refine gv rfl hg255 rfl (r_fld u64 rfl rfl sz59 rfl) <| gv rfl hg255 rfl (r_fld u59 rfl rfl sz3 rfl) <| gv rfl hg255 rfl (r_ldB u3 rfl rfl hM m0 rfl) <| bs hx fun _ h269 hx => g_cv hM hg255 rfl rfl rfl (fun X S oL hS hR hO => ct_spec_OnDoc _ X S t.c.kind hS  oL h269) fun _ hM => gv rfl hg255 rfl (r_not rfl) <| wv rfl (p_t rfl hg255 rfl) ?_
 cases hx
 exact mid_h ⟨rfl, rfl, trivial⟩ hM
 refine gn hg255 rfl rfl <| gn hg255 rfl rfl <| gn hg255 rfl rfl <| gn hg255 rfl rfl <| gn hg255 rfl rfl <| wv rfl (p_f rfl hg255 rfl) ?_
 obtain rfl := oi hx
 exact mid_h ⟨rfl, rfl, trivial⟩ hM
 replace hx := hx263
 refine wmv rfl rfl <| bs hx fun c273 hx hx289 => ?_
 refine wl_midH 10 [(40, (bv c273)), (1, (pt b204 0))] hM ?_ fun w290 hM => ?_
 refine cs2 hx (fun hg274 hx => ?_) (fun hg274 hx => ?_)
 refine gn hg274 rfl rfl <| gn hg274 rfl rfl <| gn hg274 rfl rfl <| gn hg274 rfl rfl <| gs rfl rfl rfl <| gs rfl rfl rfl <| gs rfl rfl rfl <| gs rfl rfl rfl <| gn hg274 rfl rfl <| wv rfl (p_t rfl hg274 rfl) ?_
 obtain rfl := oi hx
 exact mid_h ⟨rfl, rfl, trivial⟩ hM
 refine gv rfl hg274 rfl (r_fld u64 rfl rfl sz3 rfl) <| gv rfl hg274 rfl (r_ldB u3 rfl rfl hM m0 rfl) <| gv rfl hg274 rfl (r_eql rfl rfl) <| gv rfl hg274 rfl (r_move rfl) <| bs hx fun c295 hx hx301 => ?_
 refine wl_midH 5 [(39, (bv c295)), (1, (pt b204 0)), (30, (bv c254))] hM ?_ fun w302 hM => ?_
 refine cs2 hx (fun hg296 hx => ?_) (fun hg296 hx => ?_)
 refine gv rfl hg296 rfl (r_fld u64 rfl rfl sz59 rfl) <| gv rfl hg296 rfl (r_fld u59 rfl rfl sz3 rfl) <| gv rfl hg296 rfl (r_ldB u3 rfl rfl hM m0 rfl) <| gv rfl hg296 rfl (r_neq rfl rfl) <| gv rfl hg274 rfl (p_t rfl hg296 rfl) ?_
 cases hx
 exact mid_h ⟨rfl, rfl, rfl, trivial⟩ hM
 refine gn hg296 rfl rfl <| gn hg296 rfl rfl <| gn hg296 rfl rfl <| gn hg296 rfl rfl <| gv rfl hg274 rfl (p_f rfl hg296 rfl) ?_
 obtain rfl := oi hx
 exact mid_h ⟨rfl, rfl, rfl, trivial⟩ hM
 replace hx := hx301
 refine wv rfl (p_f rfl hg274 rfl) ?_
 obtain rfl := oi hx
 exact mid_h ⟨rfl, rfl, trivial⟩ hM
 replace hx := hx289
 refine wl_sq ?_
 refine wcx hx rfl (fun hx => ?_) (fun hx => ?_)
 refine wc_sr <| was rfl rfl <| wl_sq <| wc_ret <| sq_ret ?_
 obtain rfl := oi hx
 exact fin_u [(bv false)] hM ⟨rfl, trivial⟩ rfl
 refine wc_skip <| sq_n <| wc_seq <| wc_sr <| wv rfl (r_fld u64 rfl rfl sz3 rfl) <| wv rfl (r_ldB u3 rfl rfl hM m0 rfl) <| wv rfl (r_leq rfl rfl) <| wl_sq ?_
 refine wcx hx rfl (fun hx => ?_) (fun hx => ?_)
 refine wc_sr <| wv rfl (r_fld u64 rfl rfl sz3 rfl) <| wv rfl (r_ldB u3 rfl rfl hM m0 rfl) <| wv rfl (r_eql rfl rfl) <| wmv rfl rfl <| bs hx fun c317 hx hx322 => ?_
 refine wl_midH 4 [(51, (bv c317)), (1, (pt b204 0))] hM ?_ fun w323 hM => ?_
 refine cs2 hx (fun hg318 hx => ?_) (fun hg318 hx => ?_)
 refine gv rfl hg318 rfl (r_fld u64 rfl rfl sz3 rfl) <| gv rfl hg318 rfl (r_ldB u3 rfl rfl hM m0 rfl) <| gv rfl hg318 rfl (r_eql rfl rfl) <| wv rfl (p_t rfl hg318 rfl) ?_
 cases hx
 exact mid_h ⟨rfl, rfl, trivial⟩ hM
 refine gn hg318 rfl rfl <| gn hg318 rfl rfl <| gn hg318 rfl rfl <| wv rfl (p_f rfl hg318 rfl) ?_
 obtain rfl := oi hx
 exact mid_h ⟨rfl, rfl, trivial⟩ hM
 replace hx := hx322
 refine wmv rfl rfl <| bs hx fun c328 hx hx336 => ?_
 refine wl_midH 5 [(57, (bv c328))] hM ?_ fun w337 hM => ?_
 refine cs2 hx (fun hg329 hx => ?_) (fun hg329 hx => ?_)
 refine gv rfl hg329 rfl (r_fld u64 rfl rfl sz62 rfl) <| gv rfl hg329 rfl (r_ldBS u62 sz62 rfl (us := [(iv t.a.code), (iv t.a.rev), s_t_13.v, s_t_14.v]) rfl hM m0 rfl) <| gv rfl hg329 rfl (r_build (cells := #[(iv 0), (iv 0), (.slice none 0 0), (.slice none 0 0)]) rfl (by kernel_rfl)) <| bs hx fun _ h342 hx => g_cv hM hg329 rfl rfl rfl (fun X S oL hS hR hO => ct_spec_AnswerSame _ X S t.a s_t_13 s_t_14 (⟨0, 0, [], []⟩ : DAnswer) nS nS hS (hR _ m1) (hR _ m0) (rd_nil _ _) (rd_nil _ _) oL h342) fun _ hM => wv rfl (p_t rfl hg329 rfl) ?_
 obtain rfl := oi hx
 exact mid_h ⟨rfl, trivial⟩ hM
 refine gn hg329 rfl rfl <| gn hg329 rfl rfl <| gn hg329 rfl rfl <| gn hg329 rfl rfl <| wv rfl (p_f rfl hg329 rfl) ?_
 obtain rfl := oi hx
 exact mid_h ⟨rfl, trivial⟩ hM
 replace hx := hx336
 refine was rfl rfl <| wl_sq <| wc_ret <| sq_ret ?_
 obtain rfl := oi hx
 exact fin_u [(bv c328)] hM ⟨rfl, trivial⟩ rfl
 refine wc_skip <| sq_n <| wc_sr <| wv rfl (r_fld u64 rfl rfl sz62 rfl) <| wv rfl (r_ldBS u62 sz62 rfl (us := [(iv t.a.code), (iv t.a.rev), s_t_13.v, s_t_14.v]) rfl hM m0 rfl) <| wv rfl (r_build (cells := #[(iv 11), (iv 0), (.slice none 0 0), (.slice none 0 0)]) rfl (by kernel_rfl)) <| bs hx fun _ h349 hx => w_cv hM rfl rfl (fun X S oL hS hR hO => ct_spec_AnswerSame _ X S t.a s_t_13 s_t_14 (⟨11, 0, [], []⟩ : DAnswer) nS nS hS (hR _ m1) (hR _ m0) (rd_nil _ _) (rd_nil _ _) oL h349) fun _ hM => wmv rfl rfl <| bs hx fun c352 hx hx358 => ?_
 refine wl_midH 5 [(67, (bv c352)), (1, (pt b204 0))] hM ?_ fun w359 hM => ?_
 refine cs2 hx (fun hg353 hx => ?_) (fun hg353 hx => ?_)
 refine gv rfl hg353 rfl (r_fld u64 rfl rfl sz59 rfl) <| gv rfl hg353 rfl (r_fld u59 rfl rfl sz3 rfl) <| gv rfl hg353 rfl (r_ldB u3 rfl rfl hM m0 rfl) <| gv rfl hg353 rfl (r_eql rfl rfl) <| wv rfl (p_t rfl hg353 rfl) ?_
 cases hx
 exact mid_h ⟨rfl, rfl, trivial⟩ hM
 refine gn hg353 rfl rfl <| gn hg353 rfl rfl <| gn hg353 rfl rfl <| gn hg353 rfl rfl <| wv rfl (p_f rfl hg353 rfl) ?_
 obtain rfl := oi hx
 exact mid_h ⟨rfl, rfl, trivial⟩ hM
 replace hx := hx358
 refine wmv rfl rfl <| bs hx fun c365 hx hx370 => ?_
 refine wl_midH 4 [(72, (bv c365)), (1, (pt b204 0))] hM ?_ fun w371 hM => ?_
 refine cs2 hx (fun hg366 hx => ?_) (fun hg366 hx => ?_)
 refine gv rfl hg366 rfl (r_fld u64 rfl rfl sz3 rfl) <| gv rfl hg366 rfl (r_ldB u3 rfl rfl hM m0 rfl) <| gv rfl hg366 rfl (r_eql rfl rfl) <| wv rfl (p_t rfl hg366 rfl) ?_
 cases hx
 exact mid_h ⟨rfl, rfl, trivial⟩ hM
 refine gn hg366 rfl rfl <| gn hg366 rfl rfl <| gn hg366 rfl rfl <| wv rfl (p_f rfl hg366 rfl) ?_
 obtain rfl := oi hx
 exact mid_h ⟨rfl, rfl, trivial⟩ hM
 replace hx := hx370
 refine was rfl rfl <| wl_sq <| wc_seq <| wc_sr <| wmv rfl rfl <| wv rfl (r_not rfl) <| wmv rfl rfl <| bs hx fun c379 hx hx389 => ?_
 refine wl_midH 7 [(82, (bv c379)), (1, (pt b204 0))] hM ?_ fun w390 hM => ?_
 refine cs2 hx (fun hg380 hx => ?_) (fun hg380 hx => ?_)
 refine gv rfl hg380 rfl (r_fld u64 rfl rfl sz3 rfl) <| gv rfl hg380 rfl (r_ldB u3 rfl rfl hM m0 rfl) <| gv rfl hg380 rfl (r_fld u64 rfl rfl sz3 rfl) <| gv rfl hg380 rfl (r_ldB u3 rfl rfl hM m0 rfl) <| bs hx fun _ h396 hx => g_cv hM hg380 rfl rfl rfl (fun X S oL hS hR hO => ct_spec_l01In _ X S t.lin t.inv (1000000 : Int) hS  oL h396) fun _ hM => gv rfl hg380 rfl (r_not rfl) <| wv rfl (p_t rfl hg380 rfl) ?_
 cases hx
 exact mid_h ⟨rfl, rfl, trivial⟩ hM
 refine gn hg380 rfl rfl <| gn hg380 rfl rfl <| gn hg380 rfl rfl <| gn hg380 rfl rfl <| gn hg380 rfl rfl <| gn hg380 rfl rfl <| wv rfl (p_f rfl hg380 rfl) ?_
 obtain rfl := oi hx
 exact mid_h ⟨rfl, rfl, trivial⟩ hM
 replace hx := hx389
 refine wl_sq ?_
 refine wcx hx rfl (fun hx => ?_) (fun hx => ?_)
 refine wc_sr <| was rfl rfl <| wl_sq <| wc_ret <| sq_ret ?_
 obtain rfl := oi hx
 exact fin_u [(bv false)] hM ⟨rfl, trivial⟩ rfl
 refine wc_skip <| sq_n <| wc_seq <| wc_sr <| wv rfl (r_fld u64 rfl rfl sz3 rfl) <| wv rfl (r_ldB u3 rfl rfl hM m0 rfl) <| wv rfl (r_eql rfl rfl) <| wl_sq ?_
 refine wcx hx rfl (fun hx => ?_) (fun hx => ?_)
 refine wc_sr <| wv rfl (r_fld u64 rfl rfl sz3 rfl) <| wv rfl (r_ldB u3 rfl rfl hM m0 rfl) <| wv rfl (r_eql rfl rfl) <| was rfl rfl <| wl_sq <| wc_ret <| sq_ret ?_
 obtain rfl := oi hx
 exact fin_u [(bv (decide (t.res = (-1))))] hM ⟨rfl, trivial⟩ rfl
 refine wc_skip <| sq_n <| wc_sr <| wv rfl (r_fld u64 rfl rfl sz3 rfl) <| wv rfl (r_ldB u3 rfl rfl hM m0 rfl) <| wv rfl (r_fld u64 rfl rfl sz3 rfl) <| wv rfl (r_ldB u3 rfl rfl hM m0 rfl) <| bs hx fun _ h414 hx => w_cv hM rfl rfl (fun X S oL hS hR hO => ct_spec_l01In _ X S t.res t.inv (1000000 : Int) hS  oL h414) fun _ hM => wmv rfl rfl <| bs hx fun c417 hx hx424 => ?_
 refine wl_midH 6 [(100, (bv c417))] hM ?_ fun w425 hM => ?_
 refine cs2 hx (fun hg418 hx => ?_) (fun hg418 hx => ?_)
 refine gv rfl hg418 rfl (r_fld u64 rfl rfl sz3 rfl) <| gv rfl hg418 rfl (r_ldB u3 rfl rfl hM m0 rfl) <| gv rfl hg418 rfl (r_fld u64 rfl rfl sz3 rfl) <| gv rfl hg418 rfl (r_ldB u3 rfl rfl hM m0 rfl) <| gv rfl hg418 rfl (r_geq rfl rfl) <| wv rfl (p_t rfl hg418 rfl) ?_
 cases hx
 exact mid_h ⟨rfl, trivial⟩ hM
 refine gn hg418 rfl rfl <| gn hg418 rfl rfl <| gn hg418 rfl rfl <| gn hg418 rfl rfl <| gn hg418 rfl rfl <| wv rfl (p_f rfl hg418 rfl) ?_
 obtain rfl := oi hx
 exact mid_h ⟨rfl, trivial⟩ hM
 replace hx := hx424
 refine was rfl rfl <| wl_sq <| wc_ret ?_
 obtain rfl := oi hx
 exact fin_u [(bv c417)] hM ⟨rfl, trivial⟩ rfl

end Go.Proofs.YtjbonmmmcnpjiaaGreatDoor
